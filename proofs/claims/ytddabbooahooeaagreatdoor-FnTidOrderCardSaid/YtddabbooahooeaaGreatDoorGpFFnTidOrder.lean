/- Gp: the seat's functions as pure programs; each checked by the kernel. -/
import Derived.Test.YtddabbooahooeaaGreatDoorGpCtl5
import Derived.Test.YtddabbooahooeaaGreatDoorGpTrim
import Derived.Test.YtddabbooahooeaaGreatDoorTl
import Derived.Test.YtddabbooahooeaaGreatDoorGpIns6
import Derived.Test.YtddabbooahooeaaGreatDoorGpT
set_option linter.unusedVariables false
set_option linter.unusedSimpArgs false
set_option maxRecDepth 100000
namespace Gp.YtddabbooahooeaaGreatDoor
open Go Gp
abbrev v:=@Exp.var
abbrev N:=@Exp.int
abbrev E2:=@Exp.bin
abbrev E1:=@Exp.un
abbrev E3:=@Exp.tri
abbrev Hs:=@Hint.seq
abbrev Hn:=@Hint.nil
abbrev Hc:=@Hint.cond
abbrev Hr:=@Hint.reg
abbrev Hb:=@Hint.block
abbrev Hl:=@Hint.loop
abbrev Ps:=@PI.seq
abbrev Pi:=@PI.sis
abbrev Pk:=@PI.skip
abbrev Pc:=@PI.cond
abbrev Pb:=@PI.block
abbrev Pl:=@PI.loop
abbrev Px:=@PI.exit
abbrev Pr:=@PI.ret
abbrev Sc:=@SI.call
abbrev Ss:=@SI.set
abbrev Sm:=@SI.mov
abbrev Sk:=@SI.chk
abbrev Or:=@Obj.row
abbrev Ob:=@Obj.box
abbrev Ow:=@Leaf.slw
abbrev Lb:=@Leaf.bool
abbrev Lp:=@Leaf.pb
abbrev I (n:Nat):S1:=.one (.int .i64 (.var n))
abbrev J (n:Nat):SV:=.s (I n)
abbrev Li (n:Nat):Leaf:=.int .i64 (.var n)
abbrev Lu (n:Nat):Leaf:=.int .u64 (.var n)
abbrev Ad (a b:Exp):Exp:=.bin (.ar .add .i64) a b
abbrev Sb (a b:Exp):Exp:=.bin (.ar .sub .i64) a b
abbrev An (a b:Exp):Exp:=.bin .and a b
abbrev Le (a b:Exp):Exp:=.bin (.cmp .leq) a b
abbrev Lt (a b:Exp):Exp:=.bin (.cmp .lss) a b
abbrev Ee (a b:Exp):Exp:=.bin (.cmp .eql) a b
abbrev Ix (a b:Exp):Exp:=.bin .idx a b
abbrev Ln (a:Exp):Exp:=.un .len a
abbrev Ce (j:Nat) (a:Exp):Exp:=.un (.cell j) a
abbrev Jp (o j:Nat):SV:=.s (.one (.pb o j))
abbrev Js (o t:Nat):SV:=.s (.one (.slw o t))
abbrev Jn (a:List (Nat × (Grd × SV))) (b:List (Nat × (Grd × Obj))) (x y z:Nat):Join:=⟨⟨a,b⟩,x,y,z,[]⟩
abbrev mo:=@MT.o
abbrev mt:=@MT.n true
abbrev mf:=@MT.n false
abbrev Hk:=@Hint.blockN
abbrev Lz:=@Leaf.str
abbrev Xn:=Exp.nil
abbrev Xf:=Exp.bool false
abbrev Xt:=Exp.bool true
abbrev Hz (a:Hint):Hint:=.seq .nil a
abbrev Pz (a:PI):PI:=.seq (.sis []) a
abbrev Sq:=@S1.one
abbrev e202:=mt mo (mt mo mo)
abbrev e25:=mf mo e202
abbrev e50:=mf e25 mo
abbrev e16:=mt mo e202
abbrev e326:=mt mo e16
abbrev e1:=mf e50 (mt e25 e326)
abbrev e14:=mf mo (mt mo mo)
abbrev e51:=mf e14 mo
abbrev e329:=mf e51 mo
abbrev e27:=mf e329 mo
abbrev e128:=mt e329 (mt e51 mo)
abbrev e359:=mf e27 e128
abbrev e2:=mf e359 (mt e27 e128)
abbrev e3:=mt mo e326
abbrev e4:=mf mo e326
abbrev e70:=Hc none (Hz Hn) Hn
abbrev e5:=Hz e70
abbrev e6:=mf e50 mo
abbrev e7:=some (Jn [(2,[],Jp 3 0),(3,[],Jp 4 0),(4,[],Jp 5 0),(7,[],J 8),(8,[],J 10)] [(0,[],Or true 78 (v 1)),(1,[],Or true 65 (v 2)),(2,[],Or true 3 (v 3)),(3,[],Ob true [Li 0,Ow 0 78,Ow 1 65,Ow 2 3]),(4,[],Ob true [Li 4,Li 5,Lz (v 6),Lz (v 7)]),(5,[],Ob true [Leaf.int (.i64) (N 0),Leaf.nil,Leaf.nil,Leaf.nil])] 10 1 6)
abbrev e49:=Ln (v 2)
abbrev e157:=Le (N 0) (v 9)
abbrev e290:=Ce 2 (v 10)
abbrev e289:=Ce 3 (v 10)
abbrev e337:=Ln (v 12)
abbrev e298:=N 2513169434916
abbrev e336:=Ln (v 14)
abbrev e220:=N 4398046511104
abbrev e288:=Ce 4 (v 10)
abbrev e229:=Pi [([],Sm 8 [v 10,Ad (v 9) (N 1)])]
abbrev e8:=Pz (Pb 0 (Ps (Pi [([],Sm 8 [Xn,N 0])]) (Pl (Ps (Pz (Ps (Pc (Lt (v 9) e49) Pk (Ps (Pi [([],Sm 8 [v 8])]) (Px 0))) (Ps (Pb 1 (Ps (Ps (Pi [([],Sk (An e157 (Lt (v 9) e49))),([],Ss 10 (Ix (v 2) (v 9))),([],Sk (E1 (U.isList) e290)),([],Sk (E1 (U.isList) e289))]) (Ps (Pi [([],Ss 11 Xn),([],Ss 12 (E2 (B.cat) (v 11) e290)),([],Sk (Le e337 e298))]) (Ps (Pi [([],Ss 13 Xn),([],Ss 14 (E2 (B.cat) (v 13) e289)),([],Sk (Le e336 e220))]) (Pi [([],Ss 15 (E2 (B.cons) (E2 (B.cons) (Ce 0 (v 10)) (E2 (B.cons) (Ce 1 (v 10)) (E2 (B.cons) (v 12) (E2 (B.cons) (v 14) (E2 (B.cons) e288 (E2 (B.cons) (Ce 5 (v 10)) (E2 (B.cons) (Ce 6 (v 10)) Xn))))))) Xn)),([],Ss 16 (E2 (B.cat) (v 8) (v 15))),([],Sk (Le (Ln (v 16)) (N 1599289640401)))])))) (Pi [([],Sm 10 [v 16])]))) (Pi [])))) e229))))
abbrev e9:=Sb (v 4) (N 1)
abbrev e259:=mf mo (mt e51 mo)
abbrev e150:=mf mo (mf e259 mo)
abbrev e10:=mf (mf e150 mo) mo
abbrev e11:=mf e50 (mt e25 e16)
abbrev e12:=Sb (v 5) (N 1)
abbrev e78:=mf (mf e1 mo) mo
abbrev e328:=mf e78 mo
abbrev e26:=mf e328 mo
abbrev e275:=mf e26 mo
abbrev e38:=mf e275 (mt e26 (mt e328 (mt e78 mo)))
abbrev e145:=mt e50 (mt e25 e3)
abbrev e304:=mt (mf e1 mo) (mt e1 e145)
abbrev e105:=mt e38 (mt e275 (mt e26 (mt e328 (mt e78 e304))))
abbrev e13:=mf (mf (mf e38 mo) e105) mo
abbrev e207:=mf e275 (mt e26 (mf mo (mt e78 mo)))
abbrev e61:=mf (mf e207 mo) (mt e207 (mt e275 (mt e26 (mf mo (mf mo e304)))))
abbrev e15:=mt e61 (mt (mf e38 mo) e105)
abbrev e137:=E2 (B.ar (BinOp.shr) (.u64)) (E1 (U.conv (.u64)) (Ad (v 2) (v 3))) (N 1)
abbrev e17:=E1 (U.conv (.i64)) e137
abbrev e18:=mf mo e145
abbrev e19:=Hc none Hn Hn
abbrev e36:=Ln (v 0)
abbrev e20:=Sq (Leaf.int (.i64) e36)
abbrev e148:=Sq (Leaf.pe 1 65 e12 0)
abbrev e21:=Jn [(0,[],Jp 3 0),(3,[],Jp 4 0),(7,[],SV.s e148),(8,[],J 9)] [(0,[],Or true 78 (v 1)),(1,[],Or true 65 (v 2)),(2,[],Or true 3 (v 3)),(3,[],Ob true [Li 0,Ow 0 78,Ow 1 65,Ow 2 3]),(4,[],Ob true [Li 4,Li 5,Lz (v 6),Lz (v 7)])] 9 1 5
abbrev e22:=Ix (v 2) (v 4)
abbrev e23:=Sq (Leaf.pe 1 65 (v 4) 0)
abbrev e262:=mf (mf mo (mt mo (mt e6 mo))) mo
abbrev e134:=mf mo (mt e6 mo)
abbrev e356:=mt mo e3
abbrev e107:=mt e50 (mt e25 e356)
abbrev e24:=mt mo (mt mo (mt mo (mt mo (mt mo (mt mo (mt mo (mt mo (mt mo (mt e262 (mf (mf mo e134) (mf mo (mf mo (mt e6 e107)))))))))))))
abbrev e231:=Le (N 0) (v 1)
abbrev e60:=E1 (U.slen) (v 0)
abbrev e110:=An e231 (Lt (v 1) e60)
abbrev e76:=E2 (B.sidx) (v 0) (v 1)
abbrev e42:=Pz (Pr [Xf])
abbrev e28:=Ps (Pi [([],Sk e110),([(Lt e76 (N 32),false)],Sk e110),([],Ss 2 (E3 (Tr.ite) (Lt e76 (N 32)) (Xt) (E2 (B.cmp (BinOp.gtr)) e76 (N 126)))),([(v 2,false)],Sk e110),([],Ss 3 (E3 (Tr.ite) (v 2) (Xt) (Ee e76 (N 59))))]) (Pc (v 3) e42 Pk)
abbrev e131:=Ln (v 7)
abbrev e29:=Sq (Leaf.int (.i64) e131)
abbrev e41:=Ln (v 1)
abbrev e30:=Sq (Leaf.int (.i64) e41)
abbrev e31:=some (Jn [(2,[],Jp 3 0),(3,[],Jp 4 0),(4,[],Jp 5 0),(7,[],J 8),(8,[],SV.s (Sq (Leaf.int (.i64) (N 1)))),(45,[],J 4),(47,[],SV.s (Sq (Lb (v 9))))] [(0,[],Or true 78 (v 1)),(1,[],Or true 65 (v 2)),(2,[],Or true 3 (v 3)),(3,[],Ob true [Li 0,Ow 0 78,Ow 1 65,Ow 2 3]),(4,[],Ob true [Li 4,Li 5,Lz (v 6),Lz (v 7)]),(5,[],Ob true [Leaf.int (.i64) (N 0),Leaf.nil,Leaf.nil,Leaf.nil])] 9 1 6)
abbrev e32:=Sb (Ix (v 7) (v 18)) (N 1)
abbrev e33:=Sq (Leaf.int (.i64) e49)
abbrev e34:=Jn [(2,[],Jp 3 0),(3,[],Jp 4 0),(4,[],Jp 5 0),(5,[],J 10)] [(0,[],Or false 78 (v 1)),(1,[],Or false 65 (v 2)),(2,[],Or false 3 (v 3)),(3,[],Ob true [Li 0,Ow 0 78,Ow 1 65,Ow 2 3]),(4,[],Ob true [Lz (v 4),Lz (v 5),Li 6,Li 7,Lb (v 8),Li 9]),(5,[],Ob true [Leaf.int (.i64) (N 0),Leaf.nil,Leaf.nil,Leaf.nil])] 10 1 6
abbrev e35:=some (Jn [(2,[],Jp 2 0),(4,[],Jp 8 0)] [(0,[],Or false 5 (v 0)),(1,[],Ob true [Ow 0 5,Li 19,Lu 20]),(2,[],Ob true [Leaf.int (.i64) (N 0),Leaf.nil,Leaf.nil,Leaf.nil]),(4,[],Or true 78 (v 11)),(5,[],Or true 65 (v 21)),(6,[],Or true 3 (v 13)),(8,[],Ob true [Li 10,Ow 4 78,Ow 5 65,Ow 6 3])] 19 3 9)
abbrev e56:=Sq (Leaf.int (.i64) (Ix (v 7) (v 18)))
abbrev e71:=Sq (Leaf.sl 5 3 (N 0) (v 18))
abbrev e37:=Jn [(1,[],Js 1 5),(7,[],Jp 7 0),(14,[],SV.s e56),(68,[],Js 5 3),(69,[],SV.s e29),(70,[],J 18),(78,[],SV.s e71),(79,[],J 18),(80,[],J 19)] [(0,[],Or false 5 (v 0)),(1,[],Or false 5 (v 1)),(3,[],Or true 78 (v 5)),(4,[],Or true 65 (v 6)),(5,[],Or true 3 (v 7)),(7,[],Ob true [Li 4,Ow 3 78,Ow 4 65,Ow 5 3])] 20 0 25
abbrev e39:=Jn [(2,[],Jp 2 0),(4,[],Jp 8 0)] [(0,[],Or false 5 (v 0)),(1,[],Ob true [Ow 0 5,Li 19,Lu 20]),(2,[],Ob true [Leaf.int (.i64) (N 0),Leaf.nil,Leaf.nil,Leaf.nil]),(4,[],Or true 78 (v 22)),(5,[],Or true 65 (v 23)),(12,[],Or true 3 (v 24)),(8,[],Ob true [Li 21,Ow 4 78,Ow 5 65,Ow 12 3])] 19 6 13
abbrev e40:=some (Jn [(0,[],Jp 1 0),(3,[],Js 16 71),(4,[],J 15),(5,[],J 16),(6,[],Jp 17 0),(36,[],J 31),(48,[],SV.s (Sq (Lb (v 33))))] [(0,[],Or false 5 (v 0)),(1,[],Ob true [Ow 0 5,Li 29,Lu 30]),(16,[],Or true 71 (v 14)),(17,[],Ob true [Leaf.int (.i64) (N 0),Li 28,Lz (v 22),Lz (v 25)])] 33 1 18)
abbrev e43:=Jn [(2,[],Jp 3 0),(4,[],Jp 5 0),(9,[],J 22)] [(1,[],Or true 65 (v 17)),(17,[],Or true 78 (v 19)),(18,[],Or true 3 (v 21)),(3,[],Ob true [Li 18,Ow 17 78,Leaf.sl 1 65 (N 0) (v 20),Ow 18 3]),(5,[],Ob true [Leaf.int (.i64) (N 0),Leaf.nil,Leaf.nil,Leaf.nil])] 17 6 19
abbrev e44:=Jn [(1,[],Js 1 5),(7,[],Jp 7 0),(68,[],Js 5 3),(69,[],SV.s e29),(70,[],J 18)] [(0,[],Or false 5 (v 0)),(1,[],Or false 5 (v 1)),(3,[],Or true 78 (v 5)),(4,[],Or true 65 (v 6)),(5,[],Or true 3 (v 7)),(7,[],Ob true [Li 4,Ow 3 78,Ow 4 65,Ow 5 3])] 19 0 21
abbrev e45:=Sb (Ix (v 7) (v 19)) (N 1)
abbrev e310:=Ln (v 9)
abbrev e46:=Pi [([],Ss 8 (E2 (B.cons) (E2 (B.cons) (Ad e49 (N 1)) (E2 (B.cons) (N 1) (E2 (B.cons) Xn (E2 (B.cons) Xn (E2 (B.cons) (N 0) (E2 (B.cons) (N 0) (E2 (B.cons) (Xf) Xn))))))) Xn)),([],Ss 9 (E2 (B.cat) (v 2) (v 8))),([],Sk (Le e310 (N 1599289640401)))]
abbrev e330:=mf e27 mo
abbrev e213:=mf (mf e330 mo) (mt e330 mo)
abbrev e163:=mf mo e16
abbrev e47:=Hr (mt (mf e213 mo) (mt e213 (mt (mf e330 mo) (mt e330 (mt e27 (mt (mf (mf e14 e202) (mt e14 e202)) (mt (mf e25 e16) (mt e163 e3))))))))
abbrev e199:=Ln (Ce 3 e22)
abbrev e48:=Sq (Leaf.int (.i64) e199)
abbrev e52:=Ix (v 2) e12
abbrev e53:=E2 (B.ar (BinOp.add) (.u64)) (E2 (B.ar (BinOp.mul) (.u64)) (v 2) (N 6364136223846793005)) (E1 (U.conv (.u64)) (v 3))
abbrev e54:=mt mo e356
abbrev e217:=Ce 2 (v 5)
abbrev e55:=Sq (Leaf.int (.i64) (Ln e217))
abbrev e57:=Pz (Pr [v 0,v 1,v 2,v 3,Exp.str [],N 1])
abbrev e58:=Jn [(0,[],Jp 3 0),(1,[],SV.s e23),(9,[],SV.s e30),(10,[],J 6)] [(0,[],Or true 78 (v 7)),(1,[],Or true 65 (v 2)),(2,[],Or false 3 (v 3)),(3,[],Ob false [Li 0,Ow 0 78,Ow 1 65,Ow 2 3])] 7 1 4
abbrev e205:=Ln (v 3)
abbrev e59:=Sq (Leaf.int (.i64) e205)
abbrev e62:=Sq (Leaf.int (.i64) (N 0))
abbrev e63:=Lz (v 0)
abbrev e64:=E2 (B.ar (BinOp.mul) (.i64)) (v 0) (N 2)
abbrev e261:=mf e2 mo
abbrev e193:=mf (mf e261 mo) (mt e261 (mt e2 mo))
abbrev e65:=mf e193 (mt (mf e261 mo) (mt e261 (mt e2 (mt e359 (mt e27 (mt e329 (mt e51 (mt e14 mo))))))))
abbrev e66:=Pc (Lt (v 5) (N 0)) (Pz (Pi [([],Sm 6 [Ad e17 (N 1),v 3])])) (Pz (Pi [([],Sm 6 [v 2,E1 (U.conv (.i64)) e137])]))
abbrev e215:=Ix (v 6) e32
abbrev e67:=Sq (Leaf.int (.i64) (Ln (Ce 3 e215)))
abbrev e68:=Ce 1 (v 5)
abbrev e69:=Pi [([],Sk (An e157 (Lt (v 9) (Ln (v 8))))),([],Ss 10 (Ix (v 8) (v 9)))]
abbrev e72:=Ce 0 (v 5)
abbrev e363:=Le (N 0) e9
abbrev e73:=An e363 (Lt e9 e49)
abbrev e260:=mf e4 mo
abbrev e74:=mf e260 (mf e4 e4)
abbrev e99:=Le (N 0) (v 8)
abbrev e341:=Lt (v 8) e49
abbrev e316:=Ce 2 (v 9)
abbrev e216:=Ce 3 (v 9)
abbrev e75:=Pi [([],Sk (An e99 e341)),([],Ss 9 (Ix (v 2) (v 8))),([],Sk (E1 (U.isList) e316)),([],Sk (E1 (U.isList) e216))]
abbrev e77:=Ce 6 (v 5)
abbrev e79:=Sq (Leaf.int (.i64) (Ix (v 7) (v 19)))
abbrev e80:=Jn [] [(0,[],Or true 78 (v 21)),(1,[],Or true 65 (v 22)),(2,[],Or true 3 (v 3)),(3,[],Ob true [Li 0,Ow 0 78,Ow 1 65,Ow 2 3])] 21 2 9
abbrev e81:=mf e163 mo
abbrev e82:=Hs e5 (Hz Hn)
abbrev e83:=Ce 5 (v 5)
abbrev e84:=Ce 4 (v 5)
abbrev e85:=Hr (mt mo (mt mo (mt mo (mt mo (mt mo (mt mo (mt (mf e134 mo) (mf e134 (mf mo (mt e6 e145))))))))))
abbrev e237:=Ce 2 e22
abbrev e86:=Sq (Leaf.int (.i64) (Ln e237))
abbrev e258:=mf mo e3
abbrev e87:=mf e258 mo
abbrev e184:=Le (N 0) (v 6)
abbrev e88:=Ps (Pi [([],Sc 1 [v 0,v 1,v 2,Ln (v 3)] 4 3),([],Sk (An e184 (Lt (v 6) e205)))]) (Pr [v 4,v 5,Ix (v 3) (v 6)])
abbrev e89:=Hz (Hz Hn)
abbrev e90:=Sq (Leaf.mp 4)
abbrev e91:=Lb (v 0)
abbrev e92:=Jn [(0,[],Js 0 67),(3,[],Jp 1 0),(5,[],J 3)] [(0,[],Or false 67 (v 0)),(1,[],Ob true [Lz (v 1),Lz (v 2)])] 3 1 2
abbrev e93:=Pi [([],Sm 35 [v 35,v 36,v 37,v 38])]
abbrev e169:=Ix (v 2) e9
abbrev e315:=E1 (U.isList) (Ce 3 (v 5))
abbrev e94:=Pi [([],Sk e73),([],Ss 5 e169),([],Sk (E1 (U.isList) e217)),([],Sk e315)]
abbrev e266:=Ln (v 5)
abbrev e95:=An e184 (Lt (v 6) e266)
abbrev e96:=Pi [([],Sm 8 [])]
abbrev e97:=An (Le (N 0) e12) (Lt e12 e49)
abbrev e98:=Pi [([],Sm 21 [v 21,v 22])]
abbrev e100:=An (Ee (v 18) e290) (An (Ee (v 19) e289) (E2 (B.bcmp (BinOp.eql)) (v 20) e288))
abbrev e360:=Pr [v 3]
abbrev e101:=Ps (Pi [([],Ss 3 (E3 (Tr.ite) (E2 (B.cmp (BinOp.geq)) (v 0) (v 1)) (Le (v 0) (v 2)) (Xf)))]) e360
abbrev e102:=Pi [([],Sm 17 [v 17,v 18,v 19,v 20,v 21,v 22])]
abbrev e282:=Ps (Pi [([],Sm 1 [])]) (Px 0)
abbrev e103:=Pc (Lt (v 1) e60) Pk e282
abbrev e222:=Le (N 0) (v 10)
abbrev e248:=Lt (v 10) e41
abbrev e104:=An e222 e248
abbrev e106:=Sq (Lz (v 5))
abbrev e203:=mf mo e14
abbrev e357:=mf mo e4
abbrev e108:=mf (mf e203 mo) (mf e203 e357)
abbrev e344:=Lt (v 2) e36
abbrev e109:=An (Le (N 0) (v 2)) e344
abbrev e111:=Pr [E2 (B.cat) (E3 (Tr.ext) (v 0) (N 0) (v 1)) (E2 (B.cat) (v 2) (E3 (Tr.ext) (v 0) (v 1) e36))]
abbrev e112:=Hs (Hr (mt e25 (mt e51 (mt e14 e326)))) Hn
abbrev e113:=mf e260 (mf e4 e258)
abbrev e114:=Pi [([],Sm 8 [Ad (v 8) (N 1)])]
abbrev e115:=Pi [([],Sm 1 [Ad (v 1) (N 1)])]
abbrev e221:=Le (N 0) (v 11)
abbrev e116:=Pi [([],Sk (An e221 (Lt (v 11) e310))),([],Ss 12 (Ix (v 9) (v 11)))]
abbrev e238:=mt mo e54
abbrev e117:=Hr (mt mo (mt mo (mt (mf e87 mo) (mf e87 (mf e258 (mf mo (mt mo e238)))))))
abbrev e118:=Lt (v 8) e205
abbrev e119:=Hr (mt mo (mt mo (mt mo (mt mo (mt mo (mt mo (mt mo (mt mo e145))))))))
abbrev e120:=mf mo e356
abbrev e121:=N 17592186044416
abbrev e122:=Le (N 0) (N 0)
abbrev e123:=Pi [([],Sm 2 [])]
abbrev e265:=Lz (v 1)
abbrev e124:=Sq e265
abbrev e325:=E1 (U.isList) (Ce 3 e22)
abbrev e125:=Pi [([],Sk e325)]
abbrev e126:=Pi [([],Sk (E1 (U.isList) e237))]
abbrev e127:=E2 (B.cons) (v 28) (E2 (B.cons) (Exp.str []) (E2 (B.cons) (Exp.str []) Xn))
abbrev e129:=Sq (Leaf.int (.i64) (Ln (Ce 3 (v 5))))
abbrev e130:=Pz (Pc (Ee e49 (N 20)) (Pz (Pr [v 0,v 1,v 2,v 3,Exp.str [],N 4])) Pk)
abbrev e132:=Ee (v 4) (N 3)
abbrev e133:=Ce 0 (v 6)
abbrev e135:=Ps (Pi [([],Sk (Xf))]) (Px 99999999)
abbrev e136:=E3 (Tr.ite) (E1 (U.not) (v 2)) (Xt) (E2 (B.cmp (BinOp.gtr)) e41 (N 120))
abbrev e138:=E3 (Tr.ite) (E1 (U.not) (v 4)) (Xt) (E2 (B.cmp (BinOp.gtr)) e41 (N 40))
abbrev e139:=Jn [(0,[],SV.s (Sq e63))] [] 1 0 0
abbrev e331:=mf e18 mo
abbrev e140:=mf e331 (mf e18 (mf mo (mt e50 (mt e25 (mt mo e238)))))
abbrev e284:=E1 (U.not) (v 8)
abbrev e141:=Pc e284 (Pz (Pr [N 0,Xn,Xn,Xn,Exp.str [],N 1])) Pk
abbrev e142:=E2 (B.cmp (BinOp.neq)) (v 16) (N 0)
abbrev e236:=Ce 3 e52
abbrev e143:=E1 (U.isList) e236
abbrev e144:=Pi [([],Sk (An e99 (Lt (v 8) e131))),([],Ss 9 (Ix (v 7) (v 8)))]
abbrev e146:=Pi [([],Sm 9 [])]
abbrev e147:=E2 (B.cons) (N 0) (E2 (B.cons) (N 1000) (E2 (B.cons) (N 1001) Xn))
abbrev e149:=Pi [([],Sm 10 [v 10])]
abbrev e151:=Ps (Pi [([],Sm 5 [v 5])]) (Px 0)
abbrev e255:=Ce 1 (v 9)
abbrev e152:=E3 (Tr.ite) (Ee e255 (N 3)) (Xt) (Ee e255 (N 4))
abbrev e153:=Pz (Pc (Lt (v 2) (v 3)) Pk (Ps (Pi [([],Sm 2 [v 2])]) (Px 0)))
abbrev e311:=Ix (v 5) (v 6)
abbrev e154:=E3 (Tr.setI) (v 5) (v 6) (E2 (B.setC 5) e311 (N 0))
abbrev e333:=mf e10 mo
abbrev e155:=mf e333 mo
abbrev e156:=Lz (v 4)
abbrev e158:=E1 (U.not) (v 10)
abbrev e159:=Pi [([],Sm 9 [v 9])]
abbrev e160:=Pi [([],Sm 8 [N 0])]
abbrev e161:=Pi [([],Sm 7 [v 7])]
abbrev e162:=Pi [([],Sm 1 [N 0])]
abbrev e164:=mf e260 mo
abbrev e165:=E3 (Tr.ite) (v 5) (Xt) (E2 (B.cmp (BinOp.gtr)) e49 (N 20))
abbrev e166:=Ce 1 (v 6)
abbrev e358:=mf e6 mo
abbrev e167:=mf (mf e358 mo) (mt e358 (mt e6 (mt e50 mo)))
abbrev e168:=Hr (mt mo (mt (mf e87 mo) (mf e87 (mf e258 e120))))
abbrev e170:=Pi [([],Sc 54 [v 0,v 1,v 2,v 3,Ce 0 (v 10)] 11 7)]
abbrev e171:=Hs (Hr (mt mo (mt mo (mt mo (mt mo (mt mo e24)))))) e70
abbrev e172:=E3 (Tr.setI) (v 2) e12 (E2 (B.setC 3) e52 (Ce 5 (N 0)))
abbrev e173:=N 2199023255552
abbrev e174:=Sq (Leaf.fn 175 [])
abbrev e175:=Sq (Leaf.fn 121 [])
abbrev e346:=Ix (v 6) e45
abbrev e176:=Ce 3 e346
abbrev e177:=Pz (Pr [Xt])
abbrev e178:=Pi [([],Sm 9 [v 9,v 10])]
abbrev e332:=mf e11 mo
abbrev e179:=mf (mf e332 mo) (mt e332 (mt e11 mo))
abbrev e180:=Pz (Pr [N 0,N 0,Xf,Xf])
abbrev e181:=Pr [v 7,v 8,v 9]
abbrev e182:=Pi [([],Sm 6 [v 10,v 11,v 12,Ad (v 9) (N 1)])]
abbrev e345:=Lt (v 1) e36
abbrev e183:=Pi [([],Sk (An e231 e345))]
abbrev e185:=Jn [(0,[],SV.s (Sq e63)),(3,[],J 1)] [] 2 0 0
abbrev e186:=Jn [(0,[],SV.s (Sq e63)),(3,[],J 1)] [] 1 1 0
abbrev e187:=Ee (v 4) (N 2)
abbrev e188:=Ce 6 (v 6)
abbrev e189:=Ce 5 (v 9)
abbrev e190:=Ce 5 (v 6)
abbrev e191:=Ce 4 (v 6)
abbrev e192:=Ce 0 (v 9)
abbrev e194:=E3 (Tr.setI) (v 2) e12 (E2 (B.setC 1) e52 (N 4))
abbrev e195:=E3 (Tr.ite) e344 (Ee (v 4) (N 0)) (Xf)
abbrev e196:=Pc (v 3) (Pz (Pr [N 0,Xn,Xn,Xn,Xn,Xf])) Pk
abbrev e197:=E1 (U.not) (v 11)
abbrev e198:=Pz (Pr [N 0])
abbrev e303:=mt e14 e16
abbrev e200:=mt e27 (mt e329 (mt e51 e303))
abbrev e201:=Pi [([],Sm 9 [v 12,v 13,Ad (v 11) (N 1)])]
abbrev e204:=Pi [([],Sm 7 [v 10,v 11,Ad (v 9) (N 1)])]
abbrev e206:=Hz (Hc none (Hz Hn) e5)
abbrev e208:=Ps Pk (Pi [([],Sm 19 [v 16,v 17,v 12])])
abbrev e209:=Ps (Pi [([],Sm 6 [v 6,v 7,v 8])]) (Px 0)
abbrev e210:=Pi [([],Sm 6 [v 9,v 10,Ad (v 8) (N 1)])]
abbrev e211:=E3 (Tr.ite) (v 11) (Xt) (E1 (U.not) (v 12))
abbrev e212:=E2 (B.scmp (BinOp.eql)) (Ce 0 (v 10)) (v 5)
abbrev e214:=Pi [([],Sm 19 [N 0])]
abbrev e218:=Pi [([],Sc 2 [v 0,v 1,v 2,N 60] 3 3)]
abbrev e219:=N 5864062014805
abbrev e223:=Ix (v 1) (v 10)
abbrev e224:=Sb (Ce 5 (v 8)) (N 1)
abbrev e225:=N 1442695040888963407
abbrev e226:=E2 (B.cons) (v 6) (E2 (B.cons) (v 7) Xn)
abbrev e366:=Ce 3 (v 17)
abbrev e227:=Sq (Leaf.int (.i64) (Ln e366))
abbrev e228:=Sq (Leaf.int (.i64) (Ln (Ce 3 (v 6))))
abbrev e230:=Ln (v 6)
abbrev e232:=Ix (v 0) (v 2)
abbrev e233:=Ix (v 0) (v 1)
abbrev e234:=Ee (v 4) (N 6)
abbrev e235:=Ee (v 4) (N 5)
abbrev e239:=Pi [([],Sm 7 [v 9,Ad (v 8) (N 1)])]
abbrev e240:=Pi [([],Sm 5 [v 7,Ad (v 6) (N 1)])]
abbrev e241:=Pc e344 Pk (Ps e123 (Px 0))
abbrev e242:=Ln (v 10)
abbrev e243:=mf mo (mf (mf e74 mo) (mf e74 e113))
abbrev e244:=Pi [([],Sm 20 [])]
abbrev e245:=Pi [([],Sm 19 [])]
abbrev e246:=Pi [([],Sm 12 [])]
abbrev e247:=Pi [([],Sm 19 [v 19,v 20,v 22])]
abbrev e249:=E2 (B.cmp (BinOp.neq)) (v 18) (N 3)
abbrev e250:=E2 (B.cmp (BinOp.neq)) (v 17) (N 0)
abbrev e251:=Pr [v 0,v 1,v 9,v 3,v 10,N 0]
abbrev e252:=Pi [([],Sm 19 [Ad (v 19) (N 1)])]
abbrev e253:=E2 (B.cmp (BinOp.neq)) (v 5) (N 0)
abbrev e254:=Ce 4 (v 9)
abbrev e256:=An (Le (N 0) (v 5)) (Lt (v 5) e41)
abbrev e343:=Lt (v 3) e36
abbrev e257:=An (Le (N 0) (v 3)) e343
abbrev e263:=Pi [([],Sm 2 [Ad (v 2) (N 1)])]
abbrev e264:=Lz (v 2)
abbrev e267:=Lb (v 1)
abbrev e268:=E1 (U.not) (v 15)
abbrev e269:=E1 (U.not) (v 14)
abbrev e270:=E1 (U.not) (v 13)
abbrev e271:=Pi [([],Sm 2 [N 0,Ln (v 0)])]
abbrev e272:=An (Le (N 0) e45) (Lt e45 e230)
abbrev e273:=An (Le (N 0) e32) (Lt e32 e230)
abbrev e274:=mf mo e54
abbrev e276:=Sq (Leaf.sl 4 84 (N 0) (v 11))
abbrev e277:=Sq (Leaf.int (.i64) (Ln e236))
abbrev e278:=Sq (Leaf.int (.i64) (Ln e216))
abbrev e279:=Sq (Leaf.int (.i64) (Ln e176))
abbrev e280:=Pz (Pr [N (-1)])
abbrev e281:=Ps Pk (Pi [([],Sm 10 [N 1])])
abbrev e283:=E1 (U.not) (v 9)
abbrev e285:=E1 (U.not) (v 7)
abbrev e286:=E1 (U.not) (v 6)
abbrev e287:=An (Le (N 0) e17) (Lt e17 e36)
abbrev e291:=Ce 0 (v 22)
abbrev e292:=Ce 0 (v 12)
abbrev e293:=Sb (v 17) (N 1)
abbrev e294:=Sb (v 12) (N 1)
abbrev e295:=Pz (Pr [v 2,v 0,v 1,N 4])
abbrev e296:=Pz (Pr [v 2,v 0,v 1,N 2])
abbrev e297:=Pz (Pr [v 0,v 5,v 8,v 7])
abbrev e299:=Le (N 0) (v 18)
abbrev e300:=E3 (Tr.ite) (v 3) (v 4) (Xf)
abbrev e301:=mf (mf e13 mo) (mt e13 e15)
abbrev e302:=Pi [([],Sk (An e99 e118))]
abbrev e305:=Sb (v 8) (N 1)
abbrev e306:=Sb (v 7) (N 1)
abbrev e307:=Pi [([],Sm 5 [v 1,N 0])]
abbrev e308:=Pi [([],Sm 4 [v 6,v 7])]
abbrev e309:=Pi [([],Sm 2 [v 4,v 5])]
abbrev e312:=Ix (v 3) (v 8)
abbrev e313:=Ee (v 4) (N 7)
abbrev e314:=E3 (Tr.ite) e187 (Xt) e132
abbrev e317:=Ad (v 0) (N 1)
abbrev e318:=Sq (Leaf.int (.i64) e242)
abbrev e319:=Pc (Lt (v 6) e41) Pk e151
abbrev e320:=Hz (Hz (Hc none e112 Hn))
abbrev e321:=Sq (Leaf.int (.i64) e60)
abbrev e322:=Sb e189 (N 1)
abbrev e323:=Pz (Pr [N 1])
abbrev e324:=Hz (Hs e5 Hn)
abbrev e327:=mf e81 mo
abbrev e334:=Pz (Pr [Le e60 (N 20)])
abbrev e335:=Ln (v 21)
abbrev e338:=Ln (v 11)
abbrev e339:=Pi [([],Sm 10 [v 8])]
abbrev e340:=Lt (v 9) e41
abbrev e342:=Lt (v 8) e41
abbrev e347:=E2 (B.cat) (v 6) (v 3)
abbrev e348:=E2 (B.cat) (v 4) (v 1)
abbrev e349:=Ad e64 (N 2)
abbrev e350:=Pi [([],Sm 7 [v 8])]
abbrev e351:=Pi [([],Sm 6 [v 6])]
abbrev e352:=Pi [([],Sm 3 [N 0])]
abbrev e353:=Pi [([],Sm 2 [N 0])]
abbrev e354:=E2 (B.cons) (v 17) Xn
abbrev e355:=Ce 0 (Ix (v 0) (v 3))
abbrev e361:=Pr [v 1]
abbrev e362:=Lz (v 7)
abbrev e364:=E2 (B.cons) (N 0) Xn
abbrev e365:=Ce 4 (v 12)
abbrev e367:=mt e50 (mt e25 e54)
abbrev e368:=mf e18 (mf mo e107)
abbrev e369:=Pi [([],Sm 18 [])]
abbrev e370:=Pi [([],Sm 17 [])]
abbrev e371:=Pi [([],Sm 13 [])]
def s0:Sig:=⟨98,[Sq (Lp 1 0)],[(0,Or false 5 (v 0)),(1,Ob true [Ow 0 5,Li 1,Lu 2])],3,[I 2],[(1,Ob true [Ow 0 5,Li 0,Lu 1])],3⟩
def s1:Sig:=⟨53,[Sq (Lp 1 0),I 3],[(0,Or false 5 (v 0)),(1,Ob true [Ow 0 5,Li 1,Lu 2])],4,[I 2],[(1,Ob true [Ow 0 5,Li 0,Lu 1])],3⟩
def s2:Sig:=⟨54,[Sq (Lp 1 0),I 3],[(0,Or false 5 (v 0)),(1,Ob true [Ow 0 5,Li 1,Lu 2])],4,[Sq (Lb (v 2))],[(1,Ob true [Ow 0 5,Li 0,Lu 1])],3⟩
def s3:Sig:=⟨72,[Sq (Lp 1 0),Sq (Ow 2 3)],[(0,Or false 5 (v 0)),(1,Ob true [Ow 0 5,Li 1,Lu 2]),(2,Or false 3 (v 3))],4,[I 2],[(1,Ob true [Ow 0 5,Li 0,Lu 1])],3⟩
def s4:Sig:=⟨113,[Sq (Lp 1 0),Sq (Ow 2 9)],[(0,Or false 5 (v 0)),(1,Ob true [Ow 0 5,Li 1,Lu 2]),(2,Or false 9 (v 3))],4,[Sq e264],[(1,Ob true [Ow 0 5,Li 0,Lu 1])],3⟩
def s5:Sig:=⟨82,[Sq (Lp 1 0)],[(0,Or false 5 (v 0)),(1,Ob true [Ow 0 5,Li 1,Lu 2])],3,[Sq e264],[(1,Ob true [Ow 0 5,Li 0,Lu 1])],3⟩
def s6:Sig:=⟨83,[Sq (Lp 1 0)],[(0,Or false 5 (v 0)),(1,Ob true [Ow 0 5,Li 1,Lu 2])],3,[Sq e264],[(1,Ob true [Ow 0 5,Li 0,Lu 1])],3⟩
def s7:Sig:=⟨73,[Sq (Lp 1 0)],[(0,Or false 5 (v 0)),(1,Ob true [Ow 0 5,Li 1,Lu 2])],3,[Sq (Ow 16 71)],[(1,Ob true [Ow 0 5,Li 0,Lu 1]),(16,Or true 71 (v 2))],3⟩
def s8:Sig:=⟨27,[Sq (Ow 0 5)],[(0,Or false 5 (v 0))],1,[I 0,Sq (Ow 3 71)],[(3,Or true 71 (v 1))],2⟩
def s9:Sig:=⟨74,[I 0,I 1,I 2],[],3,[Sq e91],[],1⟩
def s10:Sig:=⟨106,[S1.agg [Li 0,Ow 0 78,Ow 1 65,Ow 2 3]],[(0,Or false 78 (v 1)),(1,Or false 65 (v 2)),(2,Or false 3 (v 3))],4,[S1.agg [Li 0,Ow 6 78,Ow 19 65,Ow 8 3]],[(6,Or true 78 (v 1)),(19,Or true 65 (v 2)),(8,Or true 3 (v 3))],4⟩
def s11:Sig:=⟨252,[I 0],[],1,[Sq e63],[],1⟩
def s12:Sig:=⟨216,[I 0,I 1],[],2,[Sq e63],[],1⟩
def s13:Sig:=⟨166,[I 0],[],1,[Sq e63],[],1⟩
def s14:Sig:=⟨105,[I 0],[],1,[Sq e63],[],1⟩
def s15:Sig:=⟨149,[Sq e63,Sq e265],[],2,[Sq e63],[],1⟩
def s16:Sig:=⟨97,[Sq e63],[],1,[Sq e91],[],1⟩
def s17:Sig:=⟨114,[Sq e63],[],1,[Sq e91],[],1⟩
def s18:Sig:=⟨122,[Sq e63,Sq e265],[],2,[I 0],[],1⟩
def s19:Sig:=⟨175,[S1.agg [Lz (v 0),Lz (v 1)],Sq e264],[],3,[I 0],[],1⟩
def s20:Sig:=⟨174,[Sq (Ow 0 67),Sq e265,Sq (Leaf.fn 175 [])],[(0,Or false 67 (v 0))],2,[I 0,Sq e267],[],2⟩
def s21:Sig:=⟨116,[Sq (Leaf.pe 0 65 (v 1) 0),Sq e264],[(0,Or false 65 (v 0))],3,[I 0,Sq e267],[],2⟩
def s22:Sig:=⟨121,[S1.agg [Lz (v 0),Lz (v 1),Li 2,Li 3,Lb (v 4),Li 5],Sq (Lz (v 6))],[],7,[I 0],[],1⟩
def s23:Sig:=⟨120,[Sq (Ow 0 78),Sq e265,Sq (Leaf.fn 121 [])],[(0,Or false 78 (v 0))],2,[I 0,Sq e267],[],2⟩
def s24:Sig:=⟨90,[Sq (Lp 3 0),Sq e156],[(0,Or false 78 (v 1)),(1,Or false 65 (v 2)),(2,Or false 3 (v 3)),(3,Ob false [Li 0,Ow 0 78,Ow 1 65,Ow 2 3])],5,[I 0,Sq e267],[],2⟩
def s25:Sig:=⟨167,[Sq (Lp 3 0),Sq (Leaf.pe 1 65 (v 4) 0),Sq (Lz (v 5))],[(0,Or false 78 (v 1)),(1,Or true 65 (v 2)),(2,Or false 3 (v 3)),(3,Ob false [Li 0,Ow 0 78,Ow 1 65,Ow 2 3])],6,[Sq e265,I 2],[(1,Or true 65 (v 0))],3⟩
def s26:Sig:=⟨168,[Sq (Ow 0 67),I 1,Sq (Ow 1 67)],[(0,Or true 67 (v 0)),(1,Or true 67 (v 2))],3,[Sq (Ow 2 67)],[(2,Or true 67 (v 0))],1⟩
def s27:Sig:=⟨219,[Sq (Ow 0 78),I 1,Sq (Ow 1 78)],[(0,Or true 78 (v 0)),(1,Or true 78 (v 2))],3,[Sq (Ow 2 78)],[(2,Or true 78 (v 0))],1⟩
def s28:Sig:=⟨169,[Sq (Lp 3 0),Sq (Leaf.pe 1 65 (v 4) 0)],[(0,Or true 78 (v 1)),(1,Or true 65 (v 2)),(2,Or false 3 (v 3)),(3,Ob true [Li 0,Ow 0 78,Ow 1 65,Ow 2 3])],5,[I 3],[(1,Or true 65 (v 0)),(12,Or true 78 (v 2)),(3,Ob true [Li 1,Ow 12 78,Ow 1 65,Ow 2 3])],4⟩
def s29:Sig:=⟨214,[I 0],[],1,[Sq e91],[],1⟩
def s30:Sig:=⟨164,[I 0,I 1],[],2,[I 0],[],1⟩
def s31:Sig:=⟨163,[Sq (Ow 0 3)],[(0,Or false 3 (v 0))],1,[I 0],[],1⟩
def s32:Sig:=⟨220,[S1.agg [Li 0,Li 1,Lb (v 2)],S1.agg [Li 3,Li 4,Lb (v 5)]],[],6,[I 0],[],1⟩
def s33:Sig:=⟨171,[Sq (Lp 3 0),Sq (Leaf.pe 1 65 (v 4) 0)],[(0,Or true 78 (v 1)),(1,Or true 65 (v 2)),(2,Or false 3 (v 3)),(3,Ob false [Li 0,Ow 0 78,Ow 1 65,Ow 2 3])],5,[],[(0,Or true 78 (v 0)),(1,Or true 65 (v 1))],2⟩
def s34:Sig:=⟨115,[S1.agg [Li 0,Li 1,Lb (v 2)]],[],3,[Sq e91],[],1⟩
def s35:Sig:=⟨221,[Sq (Ow 0 63),I 1],[(0,Or false 63 (v 0))],2,[S1.agg [Li 0,Li 1,Lb (v 2)],Sq (Lb (v 3))],[],4⟩
def s36:Sig:=⟨170,[Sq (Lp 3 0),Sq (Leaf.pe 1 65 (v 4) 0)],[(0,Or true 78 (v 1)),(1,Or true 65 (v 2)),(2,Or true 3 (v 3)),(3,Ob true [Li 0,Ow 0 78,Ow 1 65,Ow 2 3])],5,[I 4],[(0,Or true 78 (v 0)),(1,Or true 65 (v 1)),(19,Or true 3 (v 3)),(3,Ob true [Li 2,Ow 0 78,Ow 1 65,Ow 19 3])],5⟩
def s37:Sig:=⟨107,[Sq (Lp 3 0),S1.agg [Li 4,Li 5,Lz (v 6),Lz (v 7)]],[(0,Or true 78 (v 1)),(1,Or true 65 (v 2)),(2,Or true 3 (v 3)),(3,Ob true [Li 0,Ow 0 78,Ow 1 65,Ow 2 3])],8,[Sq e156,I 5],[(9,Or true 78 (v 1)),(10,Or true 65 (v 2)),(11,Or true 3 (v 3)),(3,Ob true [Li 0,Ow 9 78,Ow 10 65,Ow 11 3])],6⟩
def s38:Sig:=⟨75,[S1.agg [Li 0,Ow 0 78,Ow 1 65,Ow 2 3],S1.agg [Li 4,Li 5,Lz (v 6),Lz (v 7)]],[(0,Or false 78 (v 1)),(1,Or false 65 (v 2)),(2,Or false 3 (v 3))],8,[S1.agg [Li 0,Ow 16 78,Ow 17 65,Ow 18 3],Sq e156,I 5],[(16,Or true 78 (v 1)),(17,Or true 65 (v 2)),(18,Or true 3 (v 3))],6⟩
def s39:Sig:=⟨28,[I 0,Sq (Ow 0 71)],[(0,Or false 71 (v 1))],2,[S1.agg [Li 0,Ow 15 78,Ow 16 65,Ow 17 3],Sq (Ow 18 3),Sq (Lb (v 5))],[(15,Or true 78 (v 1)),(16,Or true 65 (v 2)),(17,Or true 3 (v 3)),(18,Or true 3 (v 4))],6⟩
def s40:Sig:=⟨76,[I 0,I 1,I 2],[],3,[Sq e91],[],1⟩
def s41:Sig:=⟨78,[S1.agg [Li 0,Ow 0 78,Ow 1 65,Ow 2 3]],[(0,Or false 78 (v 1)),(1,Or false 65 (v 2)),(2,Or false 3 (v 3))],4,[S1.agg [Li 0,Ow 6 78,Ow 19 65,Ow 8 3]],[(6,Or true 78 (v 1)),(19,Or true 65 (v 2)),(8,Or true 3 (v 3))],4⟩
def s42:Sig:=⟨70,[I 0],[],1,[Sq e63],[],1⟩
def s43:Sig:=⟨70,[I 0],[],1,[Sq e63],[],1⟩
def s44:Sig:=⟨70,[I 0],[],1,[Sq e63],[],1⟩
def s45:Sig:=⟨70,[I 0],[],1,[Sq e63],[],1⟩
def s46:Sig:=⟨70,[I 0],[],1,[Sq e63],[],1⟩
def s47:Sig:=⟨70,[I 0],[],1,[Sq e63],[],1⟩
def s48:Sig:=⟨70,[I 0],[],1,[Sq e63],[],1⟩
def s49:Sig:=⟨70,[I 0],[],1,[Sq e63],[],1⟩
def s50:Sig:=⟨70,[I 0],[],1,[Sq e63],[],1⟩
def s51:Sig:=⟨87,[S1.agg [Li 0,Ow 0 78,Ow 1 65,Ow 2 3],I 4],[(0,Or false 78 (v 1)),(1,Or false 65 (v 2)),(2,Or false 3 (v 3))],5,[I 0],[],1⟩
def s52:Sig:=⟨85,[Sq e63],[],1,[Sq e91],[],1⟩
def s53:Sig:=⟨86,[Sq e63],[],1,[Sq e91],[],1⟩
def s54:Sig:=⟨119,[S1.agg [Li 0,Ow 0 78,Ow 1 65,Ow 2 3],Sq e156],[(0,Or false 78 (v 1)),(1,Or false 65 (v 2)),(2,Or false 3 (v 3))],5,[S1.agg [Lz (v 0),Lz (v 1),Li 2,Li 3,Lb (v 4),Li 5],Sq (Lb (v 6))],[],7⟩
def s55:Sig:=⟨108,[S1.agg [Li 0,Ow 0 78,Ow 1 65,Ow 2 3],I 4,Sq (Lz (v 5))],[(0,Or false 78 (v 1)),(1,Or true 65 (v 2)),(2,Or false 3 (v 3))],6,[S1.agg [Li 1,Ow 0 78,Ow 1 65,Ow 2 3],Sq e264,I 3],[(1,Or true 65 (v 0))],4⟩
def s56:Sig:=⟨71,[Sq (Ow 0 67),S1.agg [Lz (v 1),Lz (v 2)]],[(0,Or false 67 (v 0))],3,[Sq (Ow 5 67)],[(5,Or true 67 (v 0))],1⟩
def s57:Sig:=⟨111,[S1.agg [Li 0,Ow 0 78,Ow 1 65,Ow 2 3],S1.agg [Lz (v 4),Lz (v 5),Li 6,Li 7,Lb (v 8),Li 9]],[(0,Or false 78 (v 1)),(1,Or false 65 (v 2)),(2,Or false 3 (v 3))],10,[S1.agg [Li 0,Ow 9 78,Ow 1 65,Ow 2 3]],[(9,Or true 78 (v 1))],2⟩
def s58:Sig:=⟨109,[S1.agg [Li 0,Ow 0 78,Ow 1 65,Ow 2 3],I 4],[(0,Or true 78 (v 1)),(1,Or true 65 (v 2)),(2,Or false 3 (v 3))],5,[S1.agg [Li 1,Ow 14 78,Ow 1 65,Ow 2 3],I 3],[(1,Or true 65 (v 0)),(14,Or true 78 (v 2))],4⟩
def s59:Sig:=⟨172,[S1.agg [Li 0,Li 1,Lb (v 2)]],[],3,[S1.agg [Li 0,Li 1,Lb (v 2)]],[],3⟩
def s60:Sig:=⟨112,[S1.agg [Li 0,Ow 0 78,Ow 1 65,Ow 2 3],I 4],[(0,Or true 78 (v 1)),(1,Or true 65 (v 2)),(2,Or false 3 (v 3))],5,[S1.agg [Li 2,Ow 0 78,Ow 1 65,Ow 2 3]],[(0,Or true 78 (v 0)),(1,Or true 65 (v 1))],3⟩
def s61:Sig:=⟨80,[S1.agg [Li 0,Li 1,Lb (v 2)],S1.agg [Li 3,Li 4,Lb (v 5)]],[],6,[I 0],[],1⟩
def s62:Sig:=⟨173,[Sq (Ow 0 63),I 1],[(0,Or false 63 (v 0))],2,[S1.agg [Li 0,Li 1,Lb (v 2)],Sq (Lb (v 3))],[],4⟩
def s63:Sig:=⟨110,[S1.agg [Li 0,Ow 0 78,Ow 1 65,Ow 2 3],I 4],[(0,Or true 78 (v 1)),(1,Or true 65 (v 2)),(2,Or true 3 (v 3))],5,[S1.agg [Li 2,Leaf.sl 0 78 (N 0) (v 3),Leaf.sl 1 65 (N 0) (v 4),Ow 22 3],I 6],[(0,Or true 78 (v 0)),(1,Or true 65 (v 1)),(22,Or true 3 (v 5))],7⟩
def s64:Sig:=⟨77,[S1.agg [Li 0,Ow 0 78,Ow 1 65,Ow 2 3],S1.agg [Li 4,Li 5,Lz (v 6),Lz (v 7)]],[(0,Or true 78 (v 1)),(1,Or true 65 (v 2)),(2,Or true 3 (v 3))],8,[S1.agg [Li 0,Ow 19 78,Ow 20 65,Ow 21 3],Sq e156,I 5],[(19,Or true 78 (v 1)),(20,Or true 65 (v 2)),(21,Or true 3 (v 3))],6⟩
def s65:Sig:=⟨29,[I 0,Sq (Ow 0 71)],[(0,Or false 71 (v 1))],2,[S1.agg [Li 0,Ow 24 78,Ow 25 65,Ow 26 3],Sq (Ow 27 3),Sq (Lb (v 5))],[(24,Or true 78 (v 1)),(25,Or true 65 (v 2)),(26,Or true 3 (v 3)),(27,Or true 3 (v 4))],6⟩
def s66:Sig:=⟨22,[Sq (Ow 0 3),Sq (Ow 1 3)],[(0,Or false 3 (v 0)),(1,Or false 3 (v 1))],2,[Sq e91],[],1⟩
def s67:Sig:=⟨79,[S1.agg [Li 0,Li 1,Lb (v 2)]],[],3,[Sq e91],[],1⟩
def s68:Sig:=⟨30,[S1.agg [Li 0,Li 1,Lb (v 2)],S1.agg [Li 3,Li 4,Lb (v 5)]],[],6,[I 0,Sq e267],[],2⟩
def s69:Sig:=⟨81,[Sq (Lp 1 0)],[(0,Or false 5 (v 0)),(1,Ob true [Ow 0 5,Li 1,Lu 2])],3,[S1.agg [Li 2,Ow 4 78,Ow 5 65,Ow 12 3]],[(1,Ob true [Ow 0 5,Li 0,Lu 1]),(4,Or true 78 (v 3)),(5,Or true 65 (v 4)),(12,Or true 3 (v 5))],6⟩
def s70:Sig:=⟨31,[Sq (Ow 0 5)],[(0,Or false 5 (v 0))],1,[S1.agg [Li 0,Ow 4 78,Ow 5 65,Ow 6 3],S1.agg [Li 4,Li 5,Lz (v 6),Lz (v 7)]],[(4,Or true 78 (v 1)),(5,Or true 65 (v 2)),(6,Or true 3 (v 3))],8⟩
def s71:Sig:=⟨116,[Sq (Lp 2 0),Sq e362],[(0,Or false 84 (v 2)),(1,Or false 67 (v 3)),(2,Ob false [Li 0,Li 1,Ow 0 84,Ow 1 67,Li 4,Li 5,Lb (v 6)])],8,[I 0,Sq e267],[],2⟩
def s72:Sig:=⟨117,[I 0],[],1,[Sq e91],[],1⟩
def s73:Sig:=⟨118,[S1.agg [Li 0,Li 1,Ow 0 84,Ow 1 67,Li 4,Li 5,Lb (v 6)],I 7],[(0,Or false 84 (v 2)),(1,Or false 67 (v 3))],8,[Sq e91],[],1⟩
def s74:Sig:=⟨84,[S1.agg [Li 0,Ow 0 78,Ow 1 65,Ow 2 3]],[(0,Or false 78 (v 1)),(1,Or false 65 (v 2)),(2,Or false 3 (v 3))],4,[Sq e91],[],1⟩
def s75:Sig:=⟨32,[S1.agg [Li 0,Ow 0 78,Ow 1 65,Ow 2 3],S1.agg [Li 4,Li 5,Lz (v 6),Lz (v 7)]],[(0,Or false 78 (v 1)),(1,Or false 65 (v 2)),(2,Or false 3 (v 3))],8,[S1.agg [Li 0,Ow 9 78,Ow 10 65,Ow 11 3],Sq e156,I 5],[(9,Or true 78 (v 1)),(10,Or true 65 (v 2)),(11,Or true 3 (v 3))],6⟩
def s76:Sig:=⟨88,[S1.agg [Li 0,Li 1,Ow 0 84,Ow 1 67,Li 4,Li 5,Lb (v 6)],Sq e362],[(0,Or false 84 (v 2)),(1,Or false 67 (v 3))],8,[Sq e91],[],1⟩
def s77:Sig:=⟨89,[S1.agg [Li 0,Ow 0 78,Ow 1 65,Ow 2 3],I 4],[(0,Or false 78 (v 1)),(1,Or false 65 (v 2)),(2,Or false 3 (v 3))],5,[Sq e91],[],1⟩
def s78:Sig:=⟨58,[Sq (Ow 0 3),I 1],[(0,Or false 3 (v 0))],2,[Sq e91],[],1⟩
def s79:Sig:=⟨34,[S1.agg [Li 0,Ow 0 78,Ow 1 65,Ow 2 3]],[(0,Or false 78 (v 1)),(1,Or false 65 (v 2)),(2,Or false 3 (v 3))],4,[Sq e91],[],1⟩
def s80:Sig:=⟨33,[S1.agg [Li 0,Ow 0 78,Ow 1 65,Ow 2 3],S1.agg [Li 4,Li 5,Lz (v 6),Lz (v 7)]],[(0,Or false 78 (v 1)),(1,Or false 65 (v 2)),(2,Or false 3 (v 3))],8,[S1.agg [Li 0,Ow 16 78,Ow 17 65,Ow 18 3],Sq e156,I 5],[(16,Or true 78 (v 1)),(17,Or true 65 (v 2)),(18,Or true 3 (v 3))],6⟩
def s81:Sig:=⟨35,[S1.agg [Li 0,Ow 0 78,Ow 1 65,Ow 2 3],Sq e156],[(0,Or false 78 (v 1)),(1,Or false 65 (v 2)),(2,Or false 3 (v 3))],5,[S1.agg [Lz (v 0),Lz (v 1),Li 2,Li 3,Lb (v 4),Li 5],Sq (Lb (v 6))],[],7⟩
def s82:Sig:=⟨36,[S1.agg [Li 0,Ow 0 78,Ow 1 65,Ow 2 3]],[(0,Or false 78 (v 1)),(1,Or false 65 (v 2)),(2,Or false 3 (v 3))],4,[Sq e91],[],1⟩
def s83:Sig:=⟨5,[Sq (Ow 0 5),Sq (Ow 1 5)],[(0,Or false 5 (v 0)),(1,Or false 5 (v 1))],2,[Sq e91],[],1⟩
def sigs:List Sig:=[s0,s1,s2,s3,s4,s5,s6,s7,s8,s9,s10,s11,s12,s13,s14,s15,s16,s17,s18,s19,s20,s21,s22,s23,s24,s25,s26,s27,s28,s29,s30,s31,s32,s33,s34,s35,s36,s37,s38,s39,s40,s41,s42,s43,s44,s45,s46,s47,s48,s49,s50,s51,s52,s53,s54,s55,s56,s57,s58,s59,s60,s61,s62,s63,s64,s65,s66,s67,s68,s69,s70,s71,s72,s73,s74,s75,s76,s77,s78,s79,s80,s81,s82,s83]
abbrev Qi (n:Nat) (p:PI):Prop:=Inst Go.Proofs.Tryz.prog tab sigs n p
def h0:Hint:=Hz (Hz (Hs (Hs e168 (Hc (some (Jn [(0,[],Jp 1 0),(3,[],J 3)] [(0,[],Or false 5 (v 0)),(1,[],Ob true [Ow 0 5,Li 1,Lu 2])] 3 1 2)) (Hr (mt mo (mt e164 (mf e260 (mf e4 (mf mo e238)))))) Hn)) (Hz (Hz (Hs (Hs e168 e70) (Hz Hn))))))
def p0:PI:=Pz (Pz (Ps (Pz (Pc e345 (Ps e183 (Pi [([],Sm 3 [E1 (U.conv (.i64)) e233])])) (Ps Pk e352))) (Pz (Pz (Ps (Pz (Pc (Le (Ad (v 1) (N 1)) e36) (Pz (Pr [Ad (v 1) (N 1),E2 (B.ar (BinOp.add) (.u64)) e53 e225,v 3])) Pk)) (Pz (Pr [Ad (v 1) (N 1),E2 (B.ar (BinOp.add) (.u64)) e53 e225,E1 (U.conv (.i64)) (E2 (B.ar (BinOp.and) (.u64)) (E2 (B.ar (BinOp.shr) (.u64)) (E2 (B.ar (BinOp.add) (.u64)) e53 e225) (N 40)) (N 255))])))))))
theorem i0:Qi 0 p0:=zac (S:=s0) (no0:=2) (h:=h0) tabOk (by kernel_rfl) Go.Proofs.Tryz.func98 rfl (by kernel_rfl) (by kernel_rfl)
def h1:Hint:=Hz (Hs e5 (Hz (Hs (Hz (Hc (some (Jn [(1,[],J 3),(5,[],J 9)] [(0,[],Or false 5 (v 0)),(1,[],Ob true [Ow 0 5,Li 7,Lu 8])] 7 3 2)) Hn Hn)) (Hz Hn))))
def p1:PI:=Pz (Ps (Pz (Pc (Le (v 3) (N 1)) (Pz (Pr [v 1,v 2,N 0])) Pk)) (Ps (Pi [([],Sc 0 [v 0,v 1,v 2] 4 3)]) (Ps (Pz (Pc (E2 (B.cmp (BinOp.gtr)) (v 3) (N 200)) (Ps (Pi [([],Sc 0 [v 0,v 4,v 5] 7 3)]) (Pi [([],Sm 7 [v 7,v 8,Ad (E2 (B.ar (BinOp.mul) (.i64)) (v 6) (N 256)) (v 9)])])) (Ps Pk (Pi [([],Sm 7 [v 4,v 5,v 6])])))) (Ps (Pi [([],Sk (E2 (B.cmp (BinOp.neq)) (v 3) (N 0)))]) (Pr [v 7,v 8,E2 (B.ar (BinOp.rem) (.i64)) (v 9) (v 3)])))))
theorem i1:Qi 1 p1:=zac (S:=s1) (no0:=2) (h:=h1) tabOk (by kernel_rfl) Go.Proofs.Tryz.func53 rfl (by kernel_rfl) (by kernel_rfl)
def h2:Hint:=Hz (Hz Hn)
def p2:PI:=Pz (Ps (Pi [([],Sc 1 [v 0,v 1,v 2,v 3] 4 3)]) (Pr [v 4,v 5,Ee (v 6) (N 0)]))
theorem i2:Qi 2 p2:=zac (S:=s2) (no0:=2) (h:=h2) tabOk (by kernel_rfl) Go.Proofs.Tryz.func54 rfl (by kernel_rfl) (by kernel_rfl)
def h3:Hint:=Hz (Hz Hn)
def p3:PI:=Pz e88
theorem i3:Qi 3 p3:=zac (S:=s3) (no0:=3) (h:=h3) tabOk (by kernel_rfl) Go.Proofs.Tryz.func72 rfl (by kernel_rfl) (by kernel_rfl)
def h4:Hint:=Hz (Hz Hn)
def p4:PI:=Pz e88
theorem i4:Qi 4 p4:=zac (S:=s4) (no0:=3) (h:=h4) tabOk (by kernel_rfl) Go.Proofs.Tryz.func113 rfl (by kernel_rfl) (by kernel_rfl)
def h5:Hint:=Hz e82
def p5:PI:=Pz (Ps (Ps e218 (Pc (v 5) (Ps (Pi [([],Ss 6 (E2 (B.cons) (Exp.str []) (E2 (B.cons) (Exp.str [65]) (E2 (B.cons) (Exp.str [49,50,51,52,53,54,55,56,57]) Xn)))),([],Sc 4 [v 0,v 3,v 4,v 6] 7 3)]) e181) Pk)) (Ps (Pi [([],Ss 6 (E2 (B.cons) (Exp.str [97]) (E2 (B.cons) (Exp.str [98]) (E2 (B.cons) (Exp.str [99]) (E2 (B.cons) (Exp.str [100]) Xn))))),([],Sc 4 [v 0,v 3,v 4,v 6] 7 3)]) e181))
theorem i5:Qi 5 p5:=zac (S:=s5) (no0:=2) (h:=h5) tabOk (by kernel_rfl) Go.Proofs.Tryz.func82 rfl (by kernel_rfl) (by kernel_rfl)
def h6:Hint:=Hz e82
def p6:PI:=Pz (Ps (Ps e218 (Pc (v 5) (Ps (Pi [([],Ss 6 (E2 (B.cons) (Exp.str [97,59,98]) (E2 (B.cons) (Exp.str [10]) (E2 (B.cons) (Exp.str [49,50,51,52,53,54,55,56,57,48,49,50,51,52,53,54,55,56,57,48,49]) Xn)))),([],Sc 4 [v 0,v 3,v 4,v 6] 7 3)]) e181) Pk)) (Ps (Pi [([],Ss 6 (E2 (B.cons) (Exp.str [49]) (E2 (B.cons) (Exp.str [50]) (E2 (B.cons) (Exp.str []) (E2 (B.cons) (Exp.str [118,32,119]) (E2 (B.cons) (Exp.str [120]) Xn)))))),([],Sc 4 [v 0,v 3,v 4,v 6] 7 3)]) e181))
theorem i6:Qi 6 p6:=zac (S:=s6) (no0:=2) (h:=h6) tabOk (by kernel_rfl) Go.Proofs.Tryz.func83 rfl (by kernel_rfl) (by kernel_rfl)
def h7:Hint:=Hz (Hz (Hz (Hz (Hs (Hz (Hc (some (Jn [(0,[],Jp 1 0),(3,[],SV.s (Sq (Leaf.nil))),(4,[],SV.s e62),(5,[],J 11)] [(0,[],Or false 5 (v 0)),(1,[],Ob true [Ow 0 5,Li 9,Lu 10])] 9 3 2)) Hn Hn)) (Hs (Hb (Jn [(3,[],Js 16 71)] [(0,[],Or false 5 (v 0)),(1,[],Ob true [Ow 0 5,Li 12,Lu 13]),(16,[],Or true 71 (v 14))] 12 3 17) (Hl (Jn [(0,[],Jp 1 0),(3,[],Js 16 71),(4,[],J 15),(5,[],J 16)] [(0,[],Or false 5 (v 0)),(1,[],Ob true [Ow 0 5,Li 12,Lu 13]),(16,[],Or true 71 (v 14))] 12 5 17) (Hs (Hz e19) (Hs (Hb (Jn [(0,[],Jp 1 0),(3,[],Js 29 71),(4,[],J 20),(5,[],J 16)] [(0,[],Or false 5 (v 0)),(1,[],Ob true [Ow 0 5,Li 17,Lu 18]),(29,[],Or true 71 (v 19))] 17 4 30) (Hz (Hs (Hz (Hc (some (Jn [(0,[],Jp 1 0),(3,[],Js 16 71),(4,[],J 15),(5,[],J 16),(6,[],Jp 17 0)] [(0,[],Or false 5 (v 0)),(1,[],Ob true [Ow 0 5,Li 26,Lu 27]),(16,[],Or true 71 (v 14)),(17,[],Ob true [Leaf.int (.i64) (N 0),Li 28,Lz (v 22),Lz (v 25)])] 26 3 18)) Hn Hn)) (Hs (Hz (Hb (Jn [(0,[],Jp 1 0),(3,[],Js 26 71),(4,[],J 35),(5,[],J 16),(6,[],Jp 17 0)] [(0,[],Or false 5 (v 0)),(1,[],Ob true [Ow 0 5,Li 32,Lu 33]),(26,[],Or true 71 (v 34)),(17,[],Ob true [Li 36,Li 37,Lz (v 38),Lz (v 39)])] 32 8 27) (Hs (Hz (Hc (some (Jn [(0,[],Jp 1 0),(3,[],Js 16 71),(4,[],J 15),(5,[],J 16),(6,[],Jp 17 0),(36,[],J 31),(42,[],SV.s (Sq (Lb (v 32))))] [(0,[],Or false 5 (v 0)),(1,[],Ob true [Ow 0 5,Li 29,Lu 30]),(16,[],Or true 71 (v 14)),(17,[],Ob true [Leaf.int (.i64) (N 0),Li 28,Lz (v 22),Lz (v 25)])] 32 1 18)) Hn Hn)) (Hc (some (Jn [(0,[],Jp 1 0),(3,[],Js 26 71),(4,[],J 36),(5,[],J 16),(6,[],Jp 17 0)] [(0,[],Or false 5 (v 0)),(1,[],Ob true [Ow 0 5,Li 33,Lu 34]),(26,[],Or true 71 (v 35)),(17,[],Ob true [Li 37,Li 38,Lz (v 39),Lz (v 40)])] 33 8 27)) (Hz Hn) (Hs (Hz (Hc e40 Hn (Hz (Hc e40 Hn Hn)))) (Hc (some (Jn [(0,[],Jp 1 0),(3,[],Js 25 71),(4,[],J 15),(5,[],J 16),(6,[],Jp 17 0)] [(0,[],Or false 5 (v 0)),(1,[],Ob true [Ow 0 5,Li 34,Lu 35]),(25,[],Or true 71 (v 36)),(17,[],Ob true [Li 37,Li 28,Lz (v 22),Lz (v 25)])] 34 4 26)) Hn (Hs (Hz (Hc (some (Jn [(0,[],Jp 1 0),(3,[],Js 16 71),(4,[],J 15),(5,[],J 16),(6,[],Jp 17 0),(36,[],J 31),(53,[],SV.s (Sq (Lb (v 34))))] [(0,[],Or false 5 (v 0)),(1,[],Ob true [Ow 0 5,Li 29,Lu 30]),(16,[],Or true 71 (v 14)),(17,[],Ob true [Leaf.int (.i64) (N 0),Li 28,Lz (v 22),Lz (v 25)])] 34 1 18)) Hn Hn)) (Hc (some (Jn [(0,[],Jp 1 0),(3,[],Js 24 71),(4,[],J 15),(5,[],J 16),(6,[],Jp 17 0)] [(0,[],Or false 5 (v 0)),(1,[],Ob true [Ow 0 5,Li 35,Lu 36]),(24,[],Or true 71 (v 37)),(17,[],Ob true [Li 38,Li 28,Lz (v 22),Lz (v 25)])] 35 4 25)) Hn (Hz (Hc (some (Jn [(0,[],Jp 1 0),(3,[],Js 23 71),(4,[],J 15),(5,[],J 16),(6,[],Jp 17 0)] [(0,[],Or false 5 (v 0)),(1,[],Ob true [Ow 0 5,Li 35,Lu 36]),(23,[],Or true 71 (v 37)),(17,[],Ob true [Li 38,Li 28,Lz (v 22),Lz (v 25)])] 35 4 24)) Hn (Hz (Hc (some (Jn [(0,[],Jp 1 0),(3,[],Js 22 71),(4,[],J 15),(5,[],J 16),(6,[],Jp 17 0)] [(0,[],Or false 5 (v 0)),(1,[],Ob true [Ow 0 5,Li 35,Lu 36]),(22,[],Or true 71 (v 37)),(17,[],Ob true [Li 38,Li 28,Lz (v 22),Lz (v 25)])] 35 4 23)) Hn (Hz (Hc (some (Jn [(0,[],Jp 1 0),(3,[],Js 21 71),(4,[],J 15),(5,[],J 16),(6,[],Jp 17 0)] [(0,[],Or false 5 (v 0)),(1,[],Ob true [Ow 0 5,Li 35,Lu 36]),(21,[],Or true 71 (v 37)),(17,[],Ob true [Li 38,Li 28,Lz (v 22),Lz (v 25)])] 35 4 22)) Hn (Hz (Hc (some (Jn [(0,[],Jp 1 0),(3,[],Js 20 71),(4,[],J 15),(5,[],J 16),(6,[],Jp 17 0)] [(0,[],Or false 5 (v 0)),(1,[],Ob true [Ow 0 5,Li 35,Lu 36]),(20,[],Or true 71 (v 37)),(17,[],Ob true [Li 38,Li 28,Lz (v 22),Lz (v 25)])] 35 4 21)) (Hz Hn) (Hz (Hz (Hc (some (Jn [(0,[],Jp 1 0),(3,[],Js 16 71),(4,[],J 15),(5,[],J 16),(6,[],Jp 17 0)] [(0,[],Or false 5 (v 0)),(1,[],Ob true [Ow 0 5,Li 35,Lu 36]),(16,[],Or true 71 (v 14)),(17,[],Ob true [Li 38,Li 28,Lz (v 22),Lz (v 25)])] 38 1 18)) Hn Hn))))))))))))))))))) (Hs (Hz (Hc (some (Jn [(0,[],Jp 1 0),(3,[],Js 26 71),(4,[],J 35),(5,[],J 16),(6,[],Jp 17 0)] [(0,[],Or false 5 (v 0)),(1,[],Ob true [Ow 0 5,Li 43,Lu 44]),(26,[],Or true 71 (v 34)),(17,[],Ob true [Li 45,Li 37,Lz (v 38),Lz (v 39)])] 43 3 28)) Hn Hn)) Hn))))) Hn)))) (Hz Hn))))))
def p7:PI:=Pz (Pz (Pz (Ps (Pi [([],Sc 1 [v 0,v 1,v 2,N 30] 3 3)]) (Ps (Ps (Pi [([],Sc 2 [v 0,v 3,v 4,N 8] 6 3)]) (Pc (v 8) (Ps (Pi [([],Sc 1 [v 0,v 6,v 7,N 32] 9 3)]) (Pi [([],Sm 9 [v 9,v 10,Ad (N 90) (v 11)])])) (Ps Pk (Pi [([],Sm 9 [v 6,v 7,v 5])])))) (Ps (Pb 0 (Ps (Pi [([],Sm 12 [v 9,v 10,Xn,N 0,v 11])]) (Pl (Ps (Ps (Pz (Pc (E2 (B.cmp (BinOp.gtr)) (v 16) (N 0)) Pk (Ps (Pi [([],Sm 12 [v 12,v 13,v 14])]) (Px 0)))) (Ps (Pb 1 (Ps (Ps (Pi [([],Sc 1 [v 0,v 12,v 13,Ad (v 15) (N 1)] 17 3),([],Sc 5 [v 0,v 17,v 18] 20 3),([],Sc 6 [v 0,v 20,v 21] 23 3)]) (Ps (Pz (Pc (E2 (B.cmp (BinOp.gtr)) (v 15) (N 4)) (Ps (Pi [([],Sc 1 [v 0,v 23,v 24,N 4] 26 3)]) (Pi [([],Sm 26 [v 26,v 27,Sb (v 15) (v 28)])])) (Ps Pk (Pi [([],Sm 26 [v 23,v 24,Ad (N 1) (v 19)])])))) (Ps (Ps (Pi [([],Sc 1 [v 0,v 26,v 27,N 12] 29 3)]) (Pb 2 (Ps (Ps (Pz (Pc (Ee (v 31) (N 0)) (Ps Pk (Pi [([],Sm 32 [Ee (v 31) (N 0)])])) (Pz (Pi [([],Sm 32 [Ee (v 31) (N 1)])])))) (Pc (v 32) (Ps (Pz (Pi [])) (Pi [([],Sm 33 [v 29,v 30,v 14,Ad (v 15) (N 1),N 1,N 0,Exp.str [],Exp.str []])])) (Ps (Ps (Pz (Pc (Ee (v 31) (N 2)) (Ps Pk (Pi [([],Sm 33 [Ee (v 31) (N 2)])])) (Ps (Pz (Pc (Ee (v 31) (N 3)) (Ps Pk (Pi [([],Sm 33 [Ee (v 31) (N 3)])])) (Pz (Pi [([],Sm 33 [Ee (v 31) (N 4)])])))) (Pi [([],Sm 33 [v 33])])))) (Pc (v 33) (Pz (Pi [([],Sm 34 [v 29,v 30,v 14,N 2])])) (Ps (Ps (Pz (Pc (Ee (v 31) (N 5)) (Ps Pk (Pi [([],Sm 34 [Ee (v 31) (N 5)])])) (Pz (Pi [([],Sm 34 [Ee (v 31) (N 6)])])))) (Pc (v 34) (Pz (Pi [([],Sm 35 [v 29,v 30,v 14,N 3])])) (Ps (Pz (Pc (Ee (v 31) (N 7)) (Pz (Pi [([],Sm 35 [v 29,v 30,v 14,N 4])])) (Ps (Pz (Pc (Ee (v 31) (N 8)) (Pz (Pi [([],Sm 35 [v 29,v 30,v 14,N 5])])) (Ps (Pz (Pc (Ee (v 31) (N 9)) (Pz (Pi [([],Sm 35 [v 29,v 30,v 14,N 6])])) (Ps (Pz (Pc (Ee (v 31) (N 10)) (Ps (Ps (Pi [([],Ss 35 (E2 (B.cons) (E2 (B.cons) (N 4) e127) (E2 (B.cons) (E2 (B.cons) (N 5) e127) Xn))),([],Ss 36 (E2 (B.cat) (v 14) (v 35))),([],Sk (Le (Ln (v 36)) (N 2932031007402)))]) (Pi [])) (Pi [([],Sm 35 [v 29,v 30,v 36,N 6])])) (Ps (Pz (Ps (Pi [([],Sc 2 [v 0,v 29,v 30,N 4] 35 3)]) (Pc (E1 (U.not) (v 37)) (Pz (Pi [([],Sm 38 [N 2])])) (Ps Pk (Pi [([],Sm 38 [N 7])]))))) (Pi [([],Sm 35 [v 35,v 36,v 14,v 38])])))) e93))) e93))) e93))) e93))) (Pi [([],Sm 34 [v 35,v 36,v 37,v 38])])))) (Pi [([],Sm 33 [v 34,v 35,v 36,v 15,v 37,v 28,v 22,v 25])])))) (Pi [([],Sm 32 [v 33,v 34,v 35,v 36,v 37,v 38,v 39,v 40])])))) (Ps (Ps (Pi [([],Sc 2 [v 0,v 32,v 33,N 60] 40 3)]) (Pc (v 42) (Ps (Pi [([],Ss 43 (E2 (B.cons) (N 0) (E2 (B.cons) (N 8) Xn))),([],Sc 3 [v 0,v 40,v 41,v 43] 44 3)]) (Pi [([],Sm 43 [v 44,v 45,v 46])])) (Ps Pk (Pi [([],Sm 43 [v 40,v 41,v 36])])))) (Pi [([],Ss 46 (E2 (B.cons) (E2 (B.cons) (v 45) (E2 (B.cons) (v 37) (E2 (B.cons) (v 38) (E2 (B.cons) (v 39) Xn)))) Xn)),([],Ss 47 (E2 (B.cat) (v 34) (v 46))),([],Sk (Le (Ln (v 47)) (N 2932031007402)))]))))) (Pi [([],Sm 17 [v 43,v 44,v 47,v 35])]))) (Pi []))) (Pi [([],Sm 12 [v 17,v 18,v 19,v 20,Sb (v 16) (N 1)])]))))) (Pz (Pr [v 12,v 13,v 14])))))))
theorem i7:Qi 7 p7:=zac (S:=s7) (no0:=2) (h:=h7) tabOk (by kernel_rfl) Go.Proofs.Tryz.func73 rfl (by kernel_rfl) (by kernel_rfl)
def h8:Hint:=Hz (Hz (Hz (Hs (Hz (Hc (some (Jn [(4,[],Jp 1 0),(5,[],J 9)] [(0,[],Or false 5 (v 0)),(1,[],Ob true [Ow 0 5,Li 7,Lu 8])] 7 3 3)) Hn Hn)) (Hz Hn))))
def p8:PI:=Pz (Pz (Ps (Pi [([],Sc 1 [v 0,N 0,N 0,N 5] 1 3)]) (Ps (Ps (Pi [([],Sc 2 [v 0,v 1,v 2,N 30] 4 3)]) (Pc (v 6) (Ps (Pi [([],Ss 7 e147),([],Sc 3 [v 0,v 4,v 5,v 7] 8 3)]) (Pi [([],Sm 7 [v 8,v 9,v 10])])) (Ps Pk (Pi [([],Sm 7 [v 4,v 5,Ad (N 1) (v 3)])])))) (Ps (Pi [([],Sc 7 [v 0,v 7,v 8] 10 3)]) (Pr [v 9,v 12])))))
theorem i8:Qi 8 p8:=zac (S:=s8) (no0:=1) (h:=h8) tabOk (by kernel_rfl) Go.Proofs.Tryz.func27 rfl (by kernel_rfl) (by kernel_rfl)
def h9:Hint:=Hz (Hz Hn)
def p9:PI:=Pz e101
theorem i9:Qi 9 p9:=zac (S:=s9) (no0:=0) (h:=h9) tabOk (by kernel_rfl) Go.Proofs.Tryz.func74 rfl (by kernel_rfl) (by kernel_rfl)
def h10:Hint:=Hz (Hs (Hr (mt (mf e65 mo) (mt e65 (mt e193 (mt (mf e261 mo) (mt e261 (mt e2 (mt e359 e200)))))))) (Hs (Hz (Hb (Jn [(2,[],Jp 4 0),(3,[],Jp 9 0)] [(0,[],Or false 78 (v 1)),(1,[],Or false 65 (v 2)),(2,[],Or false 3 (v 3)),(4,[],Ob true [Leaf.int (.i64) (N 0),Leaf.nil,Leaf.nil,Leaf.nil]),(6,[],Or true 78 (v 5)),(19,[],Or true 65 (v 8)),(8,[],Or true 3 (v 7)),(9,[],Ob true [Li 0,Ow 6 78,Ow 19 65,Ow 8 3])] 8 1 20) (Hl (Jn [(2,[],Jp 4 0),(3,[],Jp 9 0),(18,[],Js 1 65),(19,[],SV.s e33),(20,[],J 9)] [(0,[],Or false 78 (v 1)),(1,[],Or false 65 (v 2)),(2,[],Or false 3 (v 3)),(4,[],Ob true [Leaf.int (.i64) (N 0),Leaf.nil,Leaf.nil,Leaf.nil]),(6,[],Or true 78 (v 5)),(19,[],Or true 65 (v 8)),(8,[],Or true 3 (v 7)),(9,[],Ob true [Li 0,Ow 6 78,Ow 19 65,Ow 8 3])] 8 2 20) (Hz (Hs e19 (Hs (Hb (Jn [(2,[],Jp 4 0),(3,[],Jp 9 0),(18,[],Js 1 65),(19,[],SV.s e33),(20,[],J 9)] [(0,[],Or false 78 (v 1)),(1,[],Or false 65 (v 2)),(2,[],Or false 3 (v 3)),(4,[],Ob true [Leaf.int (.i64) (N 0),Leaf.nil,Leaf.nil,Leaf.nil]),(6,[],Or true 78 (v 5)),(28,[],Or true 65 (v 10)),(8,[],Or true 3 (v 7)),(9,[],Ob true [Li 0,Ow 6 78,Ow 28 65,Ow 8 3])] 10 1 29) (Hz e89)) Hn)))))) (Hz Hn)))
def p10:PI:=Pz (Ps (Pi [([],Ss 4 Xn),([],Ss 5 e348),([],Sk (Le e266 e173)),([],Ss 6 Xn),([],Ss 7 e347),([],Sk (Le e131 e121))]) (Ps e8 e297))
theorem i10:Qi 10 p10:=zac (S:=s10) (no0:=3) (h:=h10) tabOk (by kernel_rfl) Go.Proofs.Tryz.func106 rfl (by kernel_rfl) (by kernel_rfl)
def h11:Hint:=Hz e82
def p11:PI:=Pz (Ps (Pz (Pc (Lt (v 0) (N 10)) (Ps (Pi [([],Sk (An (Le (N 0) (v 0)) (An (Le (v 0) e317) (Le e317 (E1 (U.slen) (Exp.str [48,49,50,51,52,53,54,55,56,57,97,98,99,100,101,102,103,104,105,106,107,108,109,110,111,112,113,114,115,116,117,118,119,120,121,122]))))))]) (Pr [E3 (Tr.sext) (Exp.str [48,49,50,51,52,53,54,55,56,57,97,98,99,100,101,102,103,104,105,106,107,108,109,110,111,112,113,114,115,116,117,118,119,120,121,122]) (v 0) e317])) Pk)) (Ps (Pi [([],Sk (An (Le (N 0) e64) (An (Le e64 e349) (Le e349 (E1 (U.slen) (Exp.str [48,48,48,49,48,50,48,51,48,52,48,53,48,54,48,55,48,56,48,57,49,48,49,49,49,50,49,51,49,52,49,53,49,54,49,55,49,56,49,57,50,48,50,49,50,50,50,51,50,52,50,53,50,54,50,55,50,56,50,57,51,48,51,49,51,50,51,51,51,52,51,53,51,54,51,55,51,56,51,57,52,48,52,49,52,50,52,51,52,52,52,53,52,54,52,55,52,56,52,57,53,48,53,49,53,50,53,51,53,52,53,53,53,54,53,55,53,56,53,57,54,48,54,49,54,50,54,51,54,52,54,53,54,54,54,55,54,56,54,57,55,48,55,49,55,50,55,51,55,52,55,53,55,54,55,55,55,56,55,57,56,48,56,49,56,50,56,51,56,52,56,53,56,54,56,55,56,56,56,57,57,48,57,49,57,50,57,51,57,52,57,53,57,54,57,55,57,56,57,57]))))))]) (Pr [E3 (Tr.sext) (Exp.str [48,48,48,49,48,50,48,51,48,52,48,53,48,54,48,55,48,56,48,57,49,48,49,49,49,50,49,51,49,52,49,53,49,54,49,55,49,56,49,57,50,48,50,49,50,50,50,51,50,52,50,53,50,54,50,55,50,56,50,57,51,48,51,49,51,50,51,51,51,52,51,53,51,54,51,55,51,56,51,57,52,48,52,49,52,50,52,51,52,52,52,53,52,54,52,55,52,56,52,57,53,48,53,49,53,50,53,51,53,52,53,53,53,54,53,55,53,56,53,57,54,48,54,49,54,50,54,51,54,52,54,53,54,54,54,55,54,56,54,57,55,48,55,49,55,50,55,51,55,52,55,53,55,54,55,55,55,56,55,57,56,48,56,49,56,50,56,51,56,52,56,53,56,54,56,55,56,56,56,57,57,48,57,49,57,50,57,51,57,52,57,53,57,54,57,55,57,56,57,57]) e64 e349])))
theorem i11:Qi 11 p11:=zac (S:=s11) (no0:=0) (h:=h11) tabOk (by kernel_rfl) Go.Proofs.Tryz.func252 rfl (by kernel_rfl) (by kernel_rfl)
def h12:Hint:=Hz (Hs (Hz (Hc none (Hs e5 (Hz (Hz (Hs (Hz (Hc (some (Jn [(0,[],J 0),(5,[],Jp 0 0),(6,[],SV.s (Sq (Lu 3)))] [(0,[],Ob true [Leaf.int (.u8) (N 0),Leaf.int (.u8) (N 0),Leaf.int (.u8) (N 0),Leaf.int (.u8) (N 0),Leaf.int (.u8) (N 0),Leaf.int (.u8) (N 0),Leaf.int (.u8) (N 0),Leaf.int (.u8) (N 0),Leaf.int (.u8) (N 0),Leaf.int (.u8) (N 0),Leaf.int (.u8) (N 0),Leaf.int (.u8) (N 0),Leaf.int (.u8) (N 0),Leaf.int (.u8) (N 0),Leaf.int (.u8) (N 0),Leaf.int (.u8) (N 0),Leaf.int (.u8) (N 0),Leaf.int (.u8) (N 0),Leaf.int (.u8) (N 0),Leaf.int (.u8) (N 0),Leaf.int (.u8) (N 0),Leaf.int (.u8) (N 0),Leaf.int (.u8) (N 0),Leaf.int (.u8) (N 0)])] 3 1 1)) Hn Hn)) (Hint.stuck))))) Hn)) (Hint.stuck))
def p12:PI:=Pz (Ps (Pz (Pc (Ee (v 1) (N 10)) (Ps (Ps (Pi [([],Ss 2 (E3 (Tr.ite) (Le (N 0) (v 0)) (Lt (v 0) (N 100)) (Xf)))]) (Pc (v 2) (Ps (Pi [([],Sc 11 [v 0] 3 1)]) e360) Pk)) (Pz (Pz (Ps (Pz (Pc (Lt (v 0) (N 0)) (Pz (Pi [([],Sm 3 [E1 (U.neg (.u64)) (E1 (U.conv (.u64)) (v 0))])])) (Ps Pk (Pi [([],Sm 3 [E1 (U.conv (.u64)) (v 0)])])))) e135)))) Pk)) e135)
theorem i12:Qi 12 p12:=zac (S:=s12) (no0:=0) (h:=h12) tabOk (by kernel_rfl) Go.Proofs.Tryz.func216 rfl (by kernel_rfl) (by kernel_rfl)
def h13:Hint:=Hz (Hz Hn)
def p13:PI:=Pz (Ps (Pi [([],Sc 12 [v 0,N 10] 1 1)]) e361)
theorem i13:Qi 13 p13:=zac (S:=s13) (no0:=0) (h:=h13) tabOk (by kernel_rfl) Go.Proofs.Tryz.func166 rfl (by kernel_rfl) (by kernel_rfl)
def h14:Hint:=Hz (Hz Hn)
def p14:PI:=Pz (Ps (Pi [([],Sc 13 [v 0] 1 1)]) e361)
theorem i14:Qi 14 p14:=zac (S:=s14) (no0:=0) (h:=h14) tabOk (by kernel_rfl) Go.Proofs.Tryz.func105 rfl (by kernel_rfl) (by kernel_rfl)
def p15:PI:=Ps (Pi [([],Sk (E1 (U.ascii) (v 1))),([],Sk (Le e60 (N 1000)))]) (Pr [E2 (B.trim) (v 0) (v 1)])
theorem i15:Qi 15 p15:=zix Go.Proofs.Tryz.lays160 (by kernel_rfl) (by kernel_rfl) (by kernel_rfl) rfl
def h16:Hint:=Hz (Hz Hn)
def p16:PI:=Pz (Ps (Pi [([],Ss 1 (E3 (Tr.ite) (E2 (B.cmp (BinOp.geq)) e60 (N 1)) (Le e60 (N 8)) (Xf))),([(v 1,true)],Sc 15 [v 0,Exp.str [97,98,99,100,101,102,103,104,105,106,107,108,109,110,111,112,113,114,115,116,117,118,119,120,121,122,48,49,50,51,52,53,54,55,56,57]] 2 1),([],Ss 3 (E3 (Tr.ite) (v 1) (E2 (B.scmp (BinOp.eql)) (v 2) (Exp.str [])) (Xf)))]) e360)
theorem i16:Qi 16 p16:=zac (S:=s16) (no0:=0) (h:=h16) tabOk (by kernel_rfl) Go.Proofs.Tryz.func97 rfl (by kernel_rfl) (by kernel_rfl)
def h17:Hint:=Hz (Hs (Hz (Hb e139 (Hl (Jn [(0,[],SV.s (Sq e63)),(5,[],SV.s e321),(6,[],J 1)] [] 1 1 0) (Hz (Hs e19 (Hs (Hb (Jn [(0,[],SV.s (Sq e63)),(5,[],SV.s e321),(6,[],J 1)] [] 2 0 0) (Hz e5)) Hn)))))) (Hz Hn))
def p17:PI:=Pz (Ps (Pz (Pb 0 (Ps e162 (Pl (Ps (Pz (Ps e103 (Ps (Pb 1 (Ps (Pz e28) e123)) (Pi [])))) e115))))) e334)
theorem i17:Qi 17 p17:=zac (S:=s17) (no0:=0) (h:=h17) tabOk (by kernel_rfl) Go.Proofs.Tryz.func114 rfl (by kernel_rfl) (by kernel_rfl)
def p18:PI:=Pz (Pr [E2 (B.cmp3) (v 0) (v 1)])
theorem i18:Qi 18 p18:=zj8 Go.Proofs.Tryz.lays106 (by kernel_rfl) (by kernel_rfl) rfl
def h19:Hint:=Hz (Hz Hn)
def p19:PI:=Pz (Ps (Pi [([],Sc 18 [v 0,v 2] 3 1)]) e360)
theorem i19:Qi 19 p19:=zac (S:=s19) (no0:=0) (h:=h19) tabOk (by kernel_rfl) Go.Proofs.Tryz.func175 rfl (by kernel_rfl) (by kernel_rfl)
def h20:Hint:=Hz (Hz (Hz (Hs (Hb (Jn [(0,[],Js 0 67),(1,[],SV.s e124),(2,[],SV.s e174),(8,[],SV.s e20),(9,[],J 2)] [(0,[],Or false 67 (v 0))] 2 1 1) (Hl (Jn [(0,[],Js 0 67),(1,[],SV.s e124),(2,[],SV.s e174),(8,[],SV.s e20),(9,[],J 2),(10,[],J 3)] [(0,[],Or false 67 (v 0))] 2 2 1) (Hs (Hz e19) (Hb (Jn [(0,[],Js 0 67),(1,[],SV.s e124),(2,[],SV.s e174),(8,[],SV.s e20),(9,[],J 4),(10,[],J 5)] [(0,[],Or false 67 (v 0))] 4 2 1) (Hz (Hz (Hc (some (Jn [(0,[],Js 0 67),(1,[],SV.s e124),(2,[],SV.s e174),(8,[],SV.s e20),(9,[],J 6),(10,[],J 7)] [(0,[],Or false 67 (v 0))] 6 2 1)) Hn Hn))))))) (Hz Hn))))
def p20:PI:=Pz (Pz (Pz (Ps (Pb 0 (Ps e271 (Pl (Ps (Ps e153 (Pb 1 (Ps (Pz (Ps (Pi [([],Sk e287),([],Ss 4 (Ix (v 0) e17)),([],Sc 19 [Ce 0 (v 4),Ce 1 (v 4),v 1] 5 1)]) e66)) e308))) e309)))) (Ps (Pi [([(Lt (v 2) e36,true)],Sk e109),([(Lt (v 2) e36,true)],Ss 3 e232),([(Lt (v 2) e36,true)],Sc 19 [Ce 0 (v 3),Ce 1 (v 3),v 1] 4 1),([],Ss 5 e195)]) (Pr [v 2,v 5])))))
theorem i20:Qi 20 p20:=zac (S:=s20) (no0:=1) (h:=h20) tabOk (by kernel_rfl) Go.Proofs.Tryz.func174 rfl (by kernel_rfl) (by kernel_rfl)
def h21:Hint:=Hz (Hz Hn)
def p21:PI:=Pz (Ps (Pi [([],Sk (E1 (U.isList) (Ce 3 e233))),([],Sc 20 [Ce 3 e233,v 2] 3 2)]) (Pr [v 3,v 4]))
theorem i21:Qi 21 p21:=zac (S:=s21) (no0:=1) (h:=h21) tabOk (by kernel_rfl) Go.Proofs.Tryz.func116 rfl (by kernel_rfl) (by kernel_rfl)
def h22:Hint:=Hz (Hz Hn)
def p22:PI:=Pz (Ps (Pi [([],Sc 18 [v 0,v 6] 7 1)]) (Pr [v 7]))
theorem i22:Qi 22 p22:=zac (S:=s22) (no0:=0) (h:=h22) tabOk (by kernel_rfl) Go.Proofs.Tryz.func121 rfl (by kernel_rfl) (by kernel_rfl)
def h23:Hint:=Hz (Hz (Hz (Hs (Hb (Jn [(0,[],Js 0 78),(1,[],SV.s e124),(2,[],SV.s e175),(8,[],SV.s e20),(9,[],J 2)] [(0,[],Or false 78 (v 0))] 2 1 1) (Hl (Jn [(0,[],Js 0 78),(1,[],SV.s e124),(2,[],SV.s e175),(8,[],SV.s e20),(9,[],J 2),(10,[],J 3)] [(0,[],Or false 78 (v 0))] 2 2 1) (Hs (Hz e19) (Hb (Jn [(0,[],Js 0 78),(1,[],SV.s e124),(2,[],SV.s e175),(8,[],SV.s e20),(9,[],J 4),(10,[],J 5)] [(0,[],Or false 78 (v 0))] 4 2 1) (Hz (Hz (Hc (some (Jn [(0,[],Js 0 78),(1,[],SV.s e124),(2,[],SV.s e175),(8,[],SV.s e20),(9,[],J 6),(10,[],J 7)] [(0,[],Or false 78 (v 0))] 6 2 1)) Hn Hn))))))) (Hz Hn))))
def p23:PI:=Pz (Pz (Pz (Ps (Pb 0 (Ps e271 (Pl (Ps (Ps e153 (Pb 1 (Ps (Pz (Ps (Pi [([],Sk e287),([],Ss 4 (Ix (v 0) e17)),([],Sc 22 [Ce 0 (v 4),Ce 1 (v 4),Ce 2 (v 4),Ce 3 (v 4),Ce 4 (v 4),Ce 5 (v 4),v 1] 5 1)]) e66)) e308))) e309)))) (Ps (Pi [([(Lt (v 2) e36,true)],Sk e109),([(Lt (v 2) e36,true)],Ss 3 e232),([(Lt (v 2) e36,true)],Sc 22 [Ce 0 (v 3),Ce 1 (v 3),Ce 2 (v 3),Ce 3 (v 3),Ce 4 (v 3),Ce 5 (v 3),v 1] 4 1),([],Ss 5 e195)]) (Pr [v 2,v 5])))))
theorem i23:Qi 23 p23:=zac (S:=s23) (no0:=1) (h:=h23) tabOk (by kernel_rfl) Go.Proofs.Tryz.func120 rfl (by kernel_rfl) (by kernel_rfl)
def h24:Hint:=Hz (Hz Hn)
def p24:PI:=Pz (Ps (Pi [([],Sc 23 [v 1,v 4] 5 2)]) (Pr [v 5,v 6]))
theorem i24:Qi 24 p24:=zac (S:=s24) (no0:=4) (h:=h24) tabOk (by kernel_rfl) Go.Proofs.Tryz.func90 rfl (by kernel_rfl) (by kernel_rfl)
def h25:Hint:=Hz (Hs (Hz e5) (Hs (Hz (Hb (Jn [(0,[],Jp 3 0),(1,[],SV.s e23),(2,[],SV.s e106)] [(0,[],Or false 78 (v 1)),(1,[],Or true 65 (v 2)),(2,[],Or false 3 (v 3)),(3,[],Ob false [Li 0,Ow 0 78,Ow 1 65,Ow 2 3])] 8 0 6) (Hl (Jn [(0,[],Jp 3 0),(1,[],SV.s e23),(2,[],SV.s e106),(34,[],Js 4 84),(35,[],SV.s e86),(36,[],J 9)] [(0,[],Or false 78 (v 1)),(1,[],Or true 65 (v 2)),(2,[],Or false 3 (v 3)),(3,[],Ob false [Li 0,Ow 0 78,Ow 1 65,Ow 2 3]),(4,[],Obj.view 1 (v 2) (v 4) 2 84 (v 8))] 8 2 6) (Hz (Hs e19 (Hs (Hb (Jn [(0,[],Jp 3 0),(1,[],SV.s e23),(2,[],SV.s e106),(34,[],Js 4 84),(35,[],SV.s e86),(36,[],J 9)] [(0,[],Or false 78 (v 1)),(1,[],Or true 65 (v 2)),(2,[],Or false 3 (v 3)),(3,[],Ob false [Li 0,Ow 0 78,Ow 1 65,Ow 2 3]),(4,[],Obj.view 1 (v 2) (v 4) 2 84 (v 10))] 10 1 7) (Hz e5)) Hn)))))) (Hz (Hs (Hz (Hz (Hc (some (Jn [(1,[],SV.s e23),(12,[],Jp 6 0)] [(0,[],Or false 78 (v 1)),(1,[],Or true 65 (v 2)),(2,[],Or false 3 (v 3)),(3,[],Ob false [Li 0,Ow 0 78,Ow 1 65,Ow 2 3]),(6,[],Ob true [Lz (v 5),Lz (v 10),Li 11,Li 12,Lb (v 13)])] 10 4 8)) e324 Hn))) (Hs e5 (Hs (Hr (mt mo (mt mo (mt e6 e367)))) (Hz Hn)))))))
def p25:PI:=Pz (Ps (Ps (Pi [([],Sc 21 [v 2,v 4,v 5] 6 2)]) (Pz (Pc (v 7) (Ps (Pi [([],Sk e325),([],Sk (An e184 (Lt (v 6) e199)))]) (Pr [v 2,Ce 1 (Ix (Ce 3 e22) (v 6)),N 0])) Pk))) (Ps (Ps e126 (Pb 0 (Ps (Pi [([],Sm 8 [Ce 2 e22,N 0])]) (Pl (Ps (Pz (Ps (Pc (Lt (v 9) (Ln e237)) Pk (Ps e96 (Px 0))) (Ps (Pb 1 (Ps (Ps e69 (Pz (Pc e212 (Pz (Pr [v 2,Ce 1 (v 10),N 0])) Pk))) e339)) (Pi [])))) e229))))) (Pz (Ps (Ps (Pi [([],Sc 24 [v 0,v 1,v 2,v 3,v 5] 8 2)]) (Pz (Pc (v 9) (Ps (Ps (Pi [([],Sk (An e99 e342)),([],Ss 10 (Ix (v 1) (v 8)))]) (Ps (Pz (Pc e288 (Pz (Pr [v 2,Exp.str [],N 2])) Pk)) (Pi []))) (Pi [([],Sm 10 [Ce 1 (v 10),Ce 2 (v 10),Ce 3 (v 10),Ce 4 (v 10)])])) (Ps Pk (Pi [([],Sm 10 [Exp.str [],N 0,N 0,Xf])]))))) (Ps (Ps e126 (Pc (Ee (Ln e237) (N 40)) (Pz (Pr [v 2,Exp.str [],N 4])) Pk)) (Ps (Pi [([],Sk (E1 (U.isList) e237)),([],Ss 14 (E2 (B.cons) (E2 (B.cons) (v 5) (E2 (B.cons) (v 10) (E2 (B.cons) (v 11) (E2 (B.cons) (v 12) (E2 (B.cons) (v 13) Xn))))) Xn)),([],Ss 15 (E3 (Tr.setI) (v 2) (v 4) (E2 (B.setC 2) e22 (Ce 9 (N 0))))),([],Ss 16 e237),([],Ss 17 (E2 (B.cat) (v 16) (v 14))),([],Sk (Le (Ln (v 17)) e298)),([],Ss 18 (E3 (Tr.setI) (v 15) (v 4) (E2 (B.setC 2) (Ix (v 15) (v 4)) (v 17))))]) (Pz (Pr [v 18,v 10,N 0]))))))))
theorem i25:Qi 25 p25:=zac (S:=s25) (no0:=4) (h:=h25) tabOk (by kernel_rfl) Go.Proofs.Tryz.func167 rfl (by kernel_rfl) (by kernel_rfl)
def p26:PI:=Ps (Pi [([],Sk e231),([],Sk (Le (v 1) e36)),([],Sk (Ee e49 (N 1))),([],Sk (Le e36 (N 4398046511103)))]) e111
theorem i26:Qi 26 p26:=zez (ρ:=insRen 217 218 0 3 4 67 46 ) tabOk (by kernel_rfl) (by kernel_rfl) (nm:= "slices.Insert[[]loop.example/g00218/impl.Cell,loop.example/g00218/impl.Cell]") (Go.Proofs.Tryz.func168.trans (by kernel_rfl)) (by kernel_rfl) Go.Proofs.Tryz.func217 (by kernel_rfl) (by kernel_rfl) (by kernel_rfl) (by kernel_rfl) rfl
def p27:PI:=Ps (Pi [([],Sk e231),([],Sk (Le (v 1) e36)),([],Sk (Ee e49 (N 1))),([],Sk (Le e36 (N 2199023255551)))]) e111
theorem i27:Qi 27 p27:=zez (ρ:=insRen 257 258 0 3 4 78 55 ) tabOk (by kernel_rfl) (by kernel_rfl) (nm:= "slices.Insert[[]loop.example/g00218/impl.Record,loop.example/g00218/impl.Record]") (Go.Proofs.Tryz.func219.trans (by kernel_rfl)) (by kernel_rfl) Go.Proofs.Tryz.func257 (by kernel_rfl) (by kernel_rfl) (by kernel_rfl) (by kernel_rfl) rfl
def h28:Hint:=Hz (Hz (Hs (Hz (Hb (Jn [(0,[],Jp 3 0),(1,[],SV.s e23),(5,[],J 5)] [(0,[],Or true 78 (v 1)),(1,[],Or true 65 (v 2)),(2,[],Or false 3 (v 3)),(3,[],Ob true [Li 0,Ow 0 78,Ow 1 65,Ow 2 3])] 5 1 6) (Hl (Jn [(0,[],Jp 3 0),(1,[],SV.s e23),(5,[],J 5),(17,[],Js 4 67),(18,[],SV.s e48),(19,[],J 7)] [(0,[],Or true 78 (v 1)),(1,[],Or true 65 (v 2)),(2,[],Or false 3 (v 3)),(3,[],Ob true [Li 0,Ow 0 78,Ow 1 65,Ow 2 3]),(4,[],Obj.view 1 (v 2) (v 4) 3 67 (v 6))] 5 3 6) (Hz (Hs e19 (Hs (Hb (Jn [(0,[],Jp 3 0),(1,[],SV.s e23),(5,[],J 8),(17,[],Js 4 67),(18,[],SV.s e48),(19,[],J 7)] [(0,[],Or true 78 (v 1)),(1,[],Or true 65 (v 2)),(2,[],Or false 3 (v 3)),(3,[],Ob true [Li 0,Ow 0 78,Ow 1 65,Ow 2 3]),(4,[],Obj.view 1 (v 2) (v 4) 3 67 (v 9))] 8 2 7) (Hz (Hz (Hz (Hc (some (Jn [(0,[],Jp 3 0),(1,[],SV.s e23),(5,[],J 11),(17,[],Js 4 67),(18,[],SV.s e48),(19,[],J 7)] [(0,[],Or true 78 (v 1)),(1,[],Or true 65 (v 2)),(2,[],Or false 3 (v 3)),(3,[],Ob true [Li 0,Ow 0 78,Ow 1 65,Ow 2 3]),(4,[],Obj.view 1 (v 2) (v 4) 3 67 (v 12))] 11 2 7)) Hn e5))))) Hn)))))) (Hs e5 (Hs (Hz (Hb (Jn [(1,[],SV.s e23)] [(1,[],Or true 65 (v 2)),(2,[],Or false 3 (v 3)),(11,[],Or true 78 (v 6)),(3,[],Ob true [Li 0,Ow 11 78,Ow 1 65,Ow 2 3])] 6 1 12) (Hl (Jn [(0,[],Jp 3 0),(1,[],SV.s e23),(55,[],Js 6 67),(56,[],SV.s e48),(57,[],J 8)] [(1,[],Or true 65 (v 2)),(2,[],Or false 3 (v 3)),(11,[],Or true 78 (v 6)),(3,[],Ob true [Li 0,Ow 11 78,Ow 1 65,Ow 2 3]),(6,[],Obj.view 1 (v 2) (v 4) 3 67 (v 7))] 6 3 12) (Hz (Hs e19 (Hs (Hb (Jn [(0,[],Jp 3 0),(1,[],SV.s e23),(55,[],Js 6 67),(56,[],SV.s e48),(57,[],J 8)] [(1,[],Or true 65 (v 2)),(2,[],Or false 3 (v 3)),(15,[],Or true 78 (v 9)),(3,[],Ob true [Li 0,Ow 15 78,Ow 1 65,Ow 2 3]),(6,[],Obj.view 1 (v 2) (v 4) 3 67 (v 10))] 9 2 16) (Hz (Hz (Hs (Hz (Hc (some (Jn [(0,[],Jp 3 0),(1,[],SV.s e23),(12,[],J 10),(55,[],Js 6 67),(56,[],SV.s e48),(57,[],J 8)] [(1,[],Or true 65 (v 2)),(2,[],Or false 3 (v 3)),(15,[],Or true 78 (v 12)),(3,[],Ob true [Li 0,Ow 15 78,Ow 1 65,Ow 2 3]),(6,[],Obj.view 1 (v 2) (v 4) 3 67 (v 13))] 12 2 16)) e117 Hn)) (Hs (Hr (mt mo (mt (mf e87 mo) (mf (mf e357 mo) (mf e357 (mf mo e274)))))) Hn))))) Hn)))))) e89))))
def p28:PI:=Pz (Pz (Ps (Ps e125 (Pb 0 (Ps (Pi [([],Sm 5 [N 0,Ce 3 e22,N 0])]) (Pl (Ps (Pz (Ps (Pc (Lt (v 7) e199) Pk e151) (Ps (Pb 1 (Ps (Ps (Pi [([],Sk (An (Le (N 0) (v 7)) (Lt (v 7) e230))),([],Ss 8 (Ix (v 6) (v 7)))]) (Ps (Pi [([],Sc 24 [v 0,v 1,v 2,v 3,Ce 0 (v 8)] 9 2)]) (Pz (Pc e158 (Pz (Pi [([],Sm 11 [Ad (v 5) (N 1),v 6])])) (Ps (Ps (Pi [([],Sk (An e157 e340))]) (Pc (E2 (B.cmp (BinOp.neq)) (Ce 5 (Ix (v 1) (v 9))) (N 0)) e296 Pk)) (Pi [([],Sm 11 [v 5,v 6])])))))) (Pi [([],Sm 8 [v 11,v 12])]))) (Pi [])))) (Pi [([],Sm 5 [v 8,v 9,Ad (v 7) (N 1)])])))))) (Ps (Pz (Pc (E2 (B.cmp (BinOp.gtr)) (Ad e41 (v 5)) (N 40)) e295 Pk)) (Ps (Ps e125 (Pb 2 (Ps (Pi [([],Sm 6 [v 1,Ce 3 e22,N 0])]) (Pl (Ps (Pz (Ps (Pc (Lt (v 8) e199) Pk (Ps e351 (Px 2))) (Ps (Pb 3 (Ps (Ps e144 (Ps (Pi [([],Sc 24 [v 0,v 6,v 2,v 3,Ce 0 (v 9)] 10 2)]) (Ps (Pz (Pc e197 (Ps (Pi [([],Ss 12 (E2 (B.cons) (E2 (B.cons) e192 (E2 (B.cons) (Exp.str []) (E2 (B.cons) (N 0) (E2 (B.cons) (N 0) (E2 (B.cons) (Xf) e364))))) Xn)),([],Sc 27 [v 6,v 10,v 12] 13 1)]) (Pi [([],Sm 12 [v 13,v 7])])) (Ps Pk (Pi [([],Sm 12 [v 6,v 7])])))) (Ps (Pi [([],Sk (An e222 (Lt (v 10) e337))),([],Ss 14 (E3 (Tr.setI) (v 12) (v 10) (E2 (B.setC 5) (Ix (v 12) (v 10)) (Ce 0 e22))))]) (Pi [([],Sk (An e222 (Lt (v 10) e336))),([],Ss 15 (E3 (Tr.setI) (v 14) (v 10) (E2 (B.setC 4) (Ix (v 14) (v 10)) (Xt))))]))))) (Pi [([],Sm 9 [v 15,v 13])]))) (Pi [])))) e210))))) (Ps (Pi [([],Ss 7 (E3 (Tr.setI) (v 2) (v 4) (E2 (B.setC 1) e22 (N 2))))]) (Pz (Pr [v 7,v 0,v 6,N 0])))))))
theorem i28:Qi 28 p28:=zac (S:=s28) (no0:=4) (h:=h28) tabOk (by kernel_rfl) Go.Proofs.Tryz.func169 rfl (by kernel_rfl) (by kernel_rfl)
def h29:Hint:=Hz (Hz Hn)
def p29:PI:=Pz (Pz (Pr [E2 (B.cmp (BinOp.neq)) (v 0) (v 0)]))
theorem i29:Qi 29 p29:=zac (S:=s29) (no0:=0) (h:=h29) tabOk (by kernel_rfl) Go.Proofs.Tryz.func214 rfl (by kernel_rfl) (by kernel_rfl)
def h30:Hint:=Hz (Hz (Hz (Hs (Hz (Hc none e82 Hn)) (Hs e5 (Hs e5 e82)))))
def p30:PI:=Pz (Ps (Pi [([],Sc 29 [v 0] 2 1)]) (Ps (Pi [([],Sc 29 [v 1] 3 1)]) (Ps (Pz (Pc (v 2) (Ps (Pz (Pc (v 3) e198 Pk)) e280) Pk)) (Ps (Pz (Pc (v 3) e323 Pk)) (Ps (Pz (Pc (Lt (v 0) (v 1)) e280 Pk)) (Ps (Pz (Pc (E2 (B.cmp (BinOp.gtr)) (v 0) (v 1)) e323 Pk)) e198))))))
theorem i30:Qi 30 p30:=zac (S:=s30) (no0:=0) (h:=h30) tabOk (by kernel_rfl) Go.Proofs.Tryz.func164 rfl (by kernel_rfl) (by kernel_rfl)
def h31:Hint:=Hz (Hz (Hs (Hz (Hb (Jn [(3,[],SV.s e62)] [(0,[],Or false 3 (v 0))] 1 0 1) (Hl (Jn [(3,[],SV.s e62),(6,[],Js 0 3),(7,[],SV.s e20),(8,[],J 1)] [(0,[],Or false 3 (v 0))] 1 1 1) (Hz (Hs e19 (Hs (Hb (Jn [(3,[],SV.s e62),(6,[],Js 0 3),(7,[],SV.s e20),(8,[],J 1)] [(0,[],Or false 3 (v 0))] 2 0 1) (Hz e5)) Hn)))))) (Hz Hn)))
def p31:PI:=Pz (Pz (Ps (Pz (Pb 0 (Ps e162 (Pl (Ps (Pz (Ps (Pc e345 Pk e282) (Ps (Pb 1 (Ps (Ps e183 (Pz (Pc (E2 (B.cmp (BinOp.neq)) e233 (N 0)) (Pz (Pr [Ix (v 0) (v 1)])) Pk))) e123)) (Pi [])))) e115))))) e198))
theorem i31:Qi 31 p31:=zac (S:=s31) (no0:=1) (h:=h31) tabOk (by kernel_rfl) Go.Proofs.Tryz.func163 rfl (by kernel_rfl) (by kernel_rfl)
def h32:Hint:=Hz (Hs (Hr (mt (mf e179 mo) (mt e179 (mt (mf e332 mo) (mt e332 (mt e11 e367)))))) Hn)
def p32:PI:=Pz (Ps (Pi [([],Sc 30 [v 0,v 3] 6 1),([],Sc 30 [v 1,v 4] 7 1),([],Ss 8 e226),([],Sc 31 [v 8] 9 1)]) (Pr [v 9]))
theorem i32:Qi 32 p32:=zac (S:=s32) (no0:=0) (h:=h32) tabOk (by kernel_rfl) Go.Proofs.Tryz.func220 rfl (by kernel_rfl) (by kernel_rfl)
def h33:Hint:=Hs (Hz (Hb (Jn [(1,[],SV.s e23)] [(0,[],Or true 78 (v 5)),(1,[],Or true 65 (v 2)),(2,[],Or false 3 (v 3)),(3,[],Ob false [Li 0,Ow 0 78,Ow 1 65,Ow 2 3])] 5 1 4) (Hl (Jn [(0,[],Jp 3 0),(1,[],SV.s e23),(9,[],SV.s e30),(10,[],J 6)] [(0,[],Or true 78 (v 5)),(1,[],Or true 65 (v 2)),(2,[],Or false 3 (v 3)),(3,[],Ob false [Li 0,Ow 0 78,Ow 1 65,Ow 2 3])] 5 2 4) (Hz (Hs e19 (Hs (Hb e58 (Hz (Hs (Hr (mt mo (mt (mf (mf (mf mo (mt e164 mo)) mo) mo) (mf (mf (mf mo (mf e164 mo)) mo) (mf (mf mo (mf e164 mo)) (mf mo (mf e164 e113))))))) (Hc (some e58) (Hz Hn) Hn)))) Hn)))))) Hn
def p33:PI:=Ps (Ps (Pz (Pb 0 (Ps e307 (Pl (Ps (Pz (Ps e319 (Ps (Pb 1 (Ps (Pz (Ps (Pi [([],Sk e95)]) (Pc (Ee (Ce 5 e311) (Ce 0 e22)) (Ps (Ps (Pi [([],Sk e95),([],Ss 7 e154)]) (Pi [([],Sk (An e184 (Lt (v 6) e131))),([],Ss 8 (E3 (Tr.setI) (v 7) (v 6) (E2 (B.setC 4) (Ix (v 7) (v 6)) (Xf))))])) e350) (Ps Pk (Pi [([],Sm 7 [v 5])]))))) e161)) (Pi [])))) e240))))) (Pi [([],Ss 6 (E3 (Tr.setI) (v 2) (v 4) (E2 (B.setC 1) e22 (N 5))))])) (Pr [v 5,v 6])
theorem i33:Qi 33 p33:=zac (S:=s33) (no0:=4) (h:=h33) tabOk (by kernel_rfl) Go.Proofs.Tryz.func171 rfl (by kernel_rfl) (by kernel_rfl)
def h34:Hint:=Hz (Hz Hn)
def p34:PI:=Pz (Ps (Pi [([],Sc 9 [v 0,N 0,N 1048575] 3 1),([(v 3,true)],Sc 9 [v 1,N 0,N 16777215] 4 1),([],Ss 5 e300)]) (Pr [v 5]))
theorem i34:Qi 34 p34:=zac (S:=s34) (no0:=0) (h:=h34) tabOk (by kernel_rfl) Go.Proofs.Tryz.func115 rfl (by kernel_rfl) (by kernel_rfl)
def h35:Hint:=Hz (Hs e5 (Hz (Hs (Hz (Hb (Jn [(4,[],Jp 1 0),(6,[],Jp 2 0)] [(0,[],Or false 63 (v 0)),(1,[],Ob true [Leaf.int (.i64) (N 0),Leaf.int (.i64) (N 0),Lb (Xf)]),(2,[],Ob true [Li 1,Li 4,Lb (Xf)])] 4 1 4) (Hl (Jn [(1,[],J 1),(4,[],Jp 1 0),(6,[],Jp 2 0),(20,[],Js 0 63),(21,[],SV.s e20),(22,[],J 5)] [(0,[],Or false 63 (v 0)),(1,[],Ob true [Leaf.int (.i64) (N 0),Leaf.int (.i64) (N 0),Lb (Xf)]),(2,[],Ob true [Li 1,Li 4,Lb (Xf)])] 4 2 4) (Hz (Hs e19 (Hs (Hb (Jn [(1,[],J 1),(4,[],Jp 1 0),(6,[],Jp 2 0),(20,[],Js 0 63),(21,[],SV.s e20),(22,[],J 5)] [(0,[],Or false 63 (v 0)),(1,[],Ob true [Leaf.int (.i64) (N 0),Leaf.int (.i64) (N 0),Lb (Xf)]),(2,[],Ob true [Li 1,Li 6,Lb (Xf)])] 6 1 5) (Hz (Hs e5 (Hz (Hc (some (Jn [(1,[],J 1),(4,[],Jp 1 0),(6,[],Jp 2 0),(20,[],Js 0 63),(21,[],SV.s e20),(22,[],J 5)] [(0,[],Or false 63 (v 0)),(1,[],Ob true [Leaf.int (.i64) (N 0),Leaf.int (.i64) (N 0),Lb (Xf)]),(2,[],Ob true [Li 1,Li 9,Lb (Xf)])] 9 1 5)) Hn Hn))))) Hn)))))) e82)))
def p35:PI:=Pz (Ps (Ps (Pi [([(E2 (B.cmp (BinOp.gtr)) e36 (N 60),false)],Sc 9 [v 1,N 0,N 1048575] 2 1),([],Ss 3 (E3 (Tr.ite) (E2 (B.cmp (BinOp.gtr)) e36 (N 60)) (Xt) (E1 (U.not) (v 2))))]) (Pc (v 3) e180 Pk)) (Pz (Ps (Pz (Pb 0 (Ps (Pi [([],Sm 4 [N 0,N 0])]) (Pl (Ps (Pz (Ps (Pc (Lt (v 5) e36) Pk (Ps (Pi [([],Sm 4 [v 4])]) (Px 0))) (Ps (Pb 1 (Ps (Ps (Pi [([],Sk (An (Le (N 0) (v 5)) (Lt (v 5) e36))),([],Ss 6 (Ix (v 0) (v 5)))]) (Ps (Ps (Pi [([],Sc 34 [Ce 0 (v 6),Ce 1 (v 6),Ce 2 (v 6)] 7 1),([],Ss 8 (E3 (Tr.ite) e285 (Xt) (E2 (B.cmp (BinOp.gtr)) e133 (v 1))))]) (Pc (v 8) e180 Pk)) (Pz (Pc (Ee e133 (v 1)) (Pz (Pi [([],Sm 9 [E2 (B.max) (v 4) (Ad e166 (N 1))])])) (Ps Pk (Pi [([],Sm 9 [v 4])])))))) (Pi [([],Sm 6 [v 9])]))) (Pi [])))) (Pi [([],Sm 4 [v 6,Ad (v 5) (N 1)])])))))) (Ps (Pz (Pc (E2 (B.cmp (BinOp.gtr)) (v 4) (N 16777215)) e180 Pk)) (Pz (Pr [v 1,v 4,Xf,Xt]))))))
theorem i35:Qi 35 p35:=zac (S:=s35) (no0:=1) (h:=h35) tabOk (by kernel_rfl) Go.Proofs.Tryz.func221 rfl (by kernel_rfl) (by kernel_rfl)
def h36:Hint:=Hz (Hz (Hs (Hz (Hb (Jn [(0,[],Jp 3 0),(1,[],SV.s e23),(5,[],Js 10 63)] [(0,[],Or true 78 (v 1)),(1,[],Or true 65 (v 2)),(2,[],Or true 3 (v 3)),(3,[],Ob true [Li 0,Ow 0 78,Ow 1 65,Ow 2 3]),(10,[],Or true 63 (v 6))] 6 1 11) (Hl (Jn [(0,[],Jp 3 0),(1,[],SV.s e23),(5,[],Js 10 63),(21,[],Js 5 84),(22,[],SV.s e86),(23,[],J 8)] [(0,[],Or true 78 (v 1)),(1,[],Or true 65 (v 2)),(2,[],Or true 3 (v 3)),(3,[],Ob true [Li 0,Ow 0 78,Ow 1 65,Ow 2 3]),(10,[],Or true 63 (v 6)),(5,[],Obj.view 1 (v 2) (v 4) 2 84 (v 7))] 6 3 11) (Hz (Hs e19 (Hs (Hb (Jn [(0,[],Jp 3 0),(1,[],SV.s e23),(5,[],Js 14 63),(21,[],Js 5 84),(22,[],SV.s e86),(23,[],J 8)] [(0,[],Or true 78 (v 1)),(1,[],Or true 65 (v 2)),(2,[],Or true 3 (v 3)),(3,[],Ob true [Li 0,Ow 0 78,Ow 1 65,Ow 2 3]),(14,[],Or true 63 (v 9)),(5,[],Obj.view 1 (v 2) (v 4) 2 84 (v 10))] 9 2 15) (Hz (Hz (Hs (Hz (Hz (Hc (some (Jn [(0,[],Jp 3 0),(1,[],SV.s e23),(5,[],Js 10 63),(7,[],Jp 11 0),(8,[],Jp 12 0),(21,[],Js 5 84),(22,[],SV.s e86),(23,[],J 8)] [(0,[],Or true 78 (v 1)),(1,[],Or true 65 (v 2)),(2,[],Or true 3 (v 3)),(3,[],Ob true [Li 0,Ow 0 78,Ow 1 65,Ow 2 3]),(10,[],Or true 63 (v 6)),(11,[],Ob true [Lz e192,Lz e255,Leaf.int (.i64) e316,Leaf.int (.i64) e216,Lb e254]),(12,[],Ob true [Lz (v 12),Lz (v 13),Li 14,Li 15,Lb (v 16),Li 17]),(5,[],Obj.view 1 (v 2) (v 4) 2 84 (v 18))] 12 7 13)) Hn Hn))) (Hs (Hs (Hr (mt e50 (mt e25 (mt mo (mt mo (mt mo (mt mo (mt mo (mt mo (mt mo (mt mo (mt mo (mt e260 (mf e4 e274)))))))))))))) (Hc none e89 Hn)) Hn))))) Hn)))))) (Hs (Hz (Hb (Jn [(0,[],Jp 3 0),(1,[],SV.s e23),(5,[],Js 15 63)] [(0,[],Or true 78 (v 1)),(1,[],Or true 65 (v 2)),(2,[],Or true 3 (v 3)),(3,[],Ob true [Li 0,Ow 0 78,Ow 1 65,Ow 2 3]),(15,[],Or true 63 (v 7))] 7 1 16) (Hl (Jn [(0,[],Jp 3 0),(1,[],SV.s e23),(5,[],Js 15 63),(75,[],Js 11 67),(76,[],SV.s e48),(77,[],J 9)] [(0,[],Or true 78 (v 1)),(1,[],Or true 65 (v 2)),(2,[],Or true 3 (v 3)),(3,[],Ob true [Li 0,Ow 0 78,Ow 1 65,Ow 2 3]),(15,[],Or true 63 (v 7)),(11,[],Obj.view 1 (v 2) (v 4) 3 67 (v 8))] 7 3 16) (Hz (Hs e19 (Hs (Hb (Jn [(0,[],Jp 3 0),(1,[],SV.s e23),(5,[],Js 18 63),(75,[],Js 11 67),(76,[],SV.s e48),(77,[],J 9)] [(0,[],Or true 78 (v 1)),(1,[],Or true 65 (v 2)),(2,[],Or true 3 (v 3)),(3,[],Ob true [Li 0,Ow 0 78,Ow 1 65,Ow 2 3]),(18,[],Or true 63 (v 10)),(11,[],Obj.view 1 (v 2) (v 4) 3 67 (v 11))] 10 2 19) e89) Hn)))))) (Hz (Hs e5 (Hz (Hz (Hs e117 (Hz Hn)))))))))
def p36:PI:=Pz (Ps (Pi [([],Ss 5 Xn)]) (Ps (Ps e126 (Pb 0 (Ps (Pi [([],Sm 6 [v 5,Ce 2 e22,N 0])]) (Pl (Ps (Pz (Ps (Pc (Lt (v 8) (Ln e237)) Pk (Ps e351 (Px 0))) (Ps (Pb 1 (Ps (Ps e144 (Pz (Ps (Ps (Pi [([],Sc 24 [v 0,v 1,v 2,v 3,Ce 0 (v 9)] 10 2)]) (Pz (Pc (v 11) (Ps (Pi [([],Sk e104),([],Ss 12 e223)]) (Pi [([],Sm 12 [Ce 0 (v 12),Ce 1 (v 12),Ce 2 (v 12),Ce 3 (v 12),Ce 4 (v 12),Ce 5 (v 12),v 7])])) (Ps Pk (Pi [([],Sm 12 [Exp.str [],Exp.str [],N 0,N 0,Xf,N 0,v 7])]))))) (Ps (Ps (Pi [([],Sc 32 [v 14,v 15,v 16,Ce 2 (v 9),Ce 3 (v 9),Ce 4 (v 9)] 19 1),([(E2 (B.cmp (BinOp.neq)) (v 19) (N 0),false)],Ss 20 (E3 (Tr.ite) e250 (E2 (B.cmp (BinOp.neq)) (v 17) (Ce 0 e22)) (Xf))),([],Ss 21 (E3 (Tr.ite) (E2 (B.cmp (BinOp.neq)) (v 19) (N 0)) (Xt) (v 20)))]) (Pc (v 21) (Ps (Pi [([],Sc 33 [v 0,v 1,v 2,v 3,v 4] 22 2)]) (Pz (Pr [v 22,v 23,v 0,v 3,N 3]))) Pk)) (Pi [([],Ss 22 (E2 (B.cons) (E2 (B.cons) e316 (E2 (B.cons) e216 (E2 (B.cons) e254 Xn))) Xn)),([],Ss 23 (E2 (B.cat) (v 6) (v 22))),([],Sk (Le (Ln (v 23)) e219))]))))) (Pi [([],Sm 9 [v 23,v 18])]))) (Pi [])))) e210))))) (Ps (Ps e125 (Pb 2 (Ps (Pi [([],Sm 7 [v 6,Ce 3 e22,N 0])]) (Pl (Ps (Pz (Ps (Pc (Lt (v 9) e199) Pk (Ps e161 (Px 2))) (Ps (Pb 3 (Ps (Ps e69 (Ps (Pi [([],Sc 24 [v 0,v 1,v 2,v 3,Ce 0 (v 10)] 11 2)]) (Pi [([],Sk (An e221 (Lt (v 11) e41))),([],Ss 13 (Ix (v 1) (v 11))),([],Ss 14 (E2 (B.cons) (E2 (B.cons) (Ce 2 (v 13)) (E2 (B.cons) (Ce 3 (v 13)) (E2 (B.cons) (Ce 4 (v 13)) Xn))) Xn)),([],Ss 15 (E2 (B.cat) (v 7) (v 14))),([],Sk (Le (Ln (v 15)) e219))]))) (Pi [([],Sm 10 [v 15,v 8])]))) (Pi [])))) e204))))) (Ps (Pi [([],Sc 35 [v 7,v 0] 8 4)]) (Ps (Pz (Pc e197 (Pz (Pr [v 1,v 2,v 0,v 3,N 4])) Pk)) (Ps (Pi [([],Ss 12 (E3 (Tr.setI) (v 2) (v 4) (E2 (B.setC 6) (E2 (B.setC 5) (E2 (B.setC 4) e22 (v 8)) (v 9)) (v 10))))]) (Ps (Pi [([],Ss 13 (E3 (Tr.setI) (v 12) (v 4) (E2 (B.setC 1) (Ix (v 12) (v 4)) (N 3))))]) (Ps (Pi [([],Ss 14 (E2 (B.cons) (Ce 0 (Ix (v 13) (v 4))) Xn)),([],Ss 15 (E2 (B.cat) (v 3) (v 14))),([],Sk (Le (Ln (v 15)) e121))]) (Pz (Pr [v 1,v 13,v 0,v 15,N 0]))))))))))
theorem i36:Qi 36 p36:=zac (S:=s36) (no0:=4) (h:=h36) tabOk (by kernel_rfl) Go.Proofs.Tryz.func170 rfl (by kernel_rfl) (by kernel_rfl)
def h37:Hint:=Hz (Hs (Hz (Hc none (Hs (Hb (Jn [(0,[],Jp 3 0)] [(0,[],Or true 78 (v 1)),(1,[],Or true 65 (v 2)),(2,[],Or true 3 (v 3)),(3,[],Ob true [Li 0,Ow 0 78,Ow 1 65,Ow 2 3])] 8 0 5) e206) (Hz e89)) Hn)) (Hs (Hs (Hr (mt e87 (mf e258 e274))) e70) (Hs (Hr (mt mo (mt e327 (mt e81 (mt e163 e356))))) (Hz (Hs (Hz (Hb e21 (Hz (Hc (some e21) Hn (Hz (Hc (some e21) Hn Hn)))))) (Hz (Hs e5 (Hs (Hz (Hb e80 (Hz (Hc none (Hz Hn) (Hz (Hc (some e80) (Hz (Hz (Hc (some (Jn [] [(0,[],Or true 78 (v 1)),(1,[],Or true 65 (v 23)),(2,[],Or true 3 (v 3)),(3,[],Ob true [Li 0,Ow 0 78,Ow 1 65,Ow 2 3])] 23 1 9)) (Hr (mt mo (mt e327 (mf e81 (mf e163 e120))))) (Hr (mt mo (mt mo (mt (mf e331 mo) e140))))))) (Hz (Hc none (Hz Hn) (Hz (Hc none (Hz Hn) (Hz (Hc (some (Jn [] [(0,[],Or true 78 (v 21)),(1,[],Or true 65 (v 22)),(2,[],Or true 3 (v 3)),(3,[],Ob true [Li 0,Ow 0 78,Ow 1 65,Ow 2 3])] 21 2 7)) (Hs (Hz (Hb (Jn [(7,[],SV.s e148)] [(0,[],Or true 78 (v 21)),(1,[],Or true 65 (v 2)),(2,[],Or true 3 (v 3)),(3,[],Ob true [Li 0,Ow 0 78,Ow 1 65,Ow 2 3])] 21 1 7) (Hl (Jn [(0,[],Jp 3 0),(7,[],SV.s e148),(184,[],Js 5 67),(185,[],SV.s e277),(186,[],J 23)] [(0,[],Or true 78 (v 21)),(1,[],Or true 65 (v 2)),(2,[],Or true 3 (v 3)),(3,[],Ob true [Li 0,Ow 0 78,Ow 1 65,Ow 2 3]),(5,[],Obj.view 1 (v 2) e12 3 67 (v 22))] 21 3 7) (Hz (Hs e19 (Hs (Hb (Jn [(0,[],Jp 3 0),(7,[],SV.s e148),(184,[],Js 5 67),(185,[],SV.s e277),(186,[],J 23)] [(0,[],Or true 78 (v 24)),(1,[],Or true 65 (v 2)),(2,[],Or true 3 (v 3)),(3,[],Ob true [Li 0,Ow 0 78,Ow 1 65,Ow 2 3]),(5,[],Obj.view 1 (v 2) e12 3 67 (v 25))] 24 2 8) (Hz (Hz (Hr (mt mo (mt (mf (mf (mf mo (mt (mf e74 mo) (mf e74 e113))) mo) mo) (mf (mf e243 mo) (mf e243 (mf mo (mf (mf e74 mo) (mf e74 (mf e260 (mf e4 e274))))))))))))) Hn)))))) Hn) (Hz (Hc (some (Jn [] [(0,[],Or true 78 (v 21)),(1,[],Or true 65 (v 22)),(2,[],Or true 3 (v 3)),(3,[],Ob true [Li 0,Ow 0 78,Ow 1 65,Ow 2 3])] 21 2 5)) Hn Hn)))))))))))))) (Hz Hn)))))))))
def p37:PI:=Pz (Ps (Pz (Pc (Ee (v 4) (N 1)) (Ps (Pb 0 (Ps (Pz (Pc e253 e57 e130)) e96)) (Pz (Ps e46 (Ps (Pi [([],Sc 14 [Ad e49 (N 1)] 10 1)]) e251)))) Pk)) (Ps (Ps (Pi [([],Sc 9 [v 5,N 1,Ln (v 2)] 8 1)]) (Pc e284 e57 Pk)) (Ps (Pi [([],Sk e97)]) (Pz (Ps (Pz (Pb 1 (Ps (Pz (Pc e235 (Pz (Pi [([],Sm 9 [N 2])])) (Ps (Pz (Pc e234 (Pz (Pi [([],Sm 9 [N 3])])) (Ps Pk (Pi [([],Sm 9 [N 1])])))) e159))) e159))) (Ps (Pi [([],Ss 10 e314)]) (Ps (Ps (Pi [([],Sc 9 [v 4,N 2,N 7] 11 1),([(E2 (B.cmp (BinOp.neq)) (Ce 1 e52) (v 9),true),(E1 (U.not) (v 11),false)],Ss 12 (E3 (Tr.ite) (E2 (B.cmp (BinOp.neq)) (v 4) (N 7)) (Xt) (E2 (B.cmp (BinOp.neq)) (Ce 1 e52) (N 2)))),([(E1 (U.not) (v 11),false)],Ss 13 (E3 (Tr.ite) (E2 (B.cmp (BinOp.neq)) (Ce 1 e52) (v 9)) (v 12) (Xf))),([],Ss 14 (E3 (Tr.ite) e197 (Xt) (v 13))),([(v 10,true),(v 14,false)],Sc 16 [v 6] 15 1),([(v 14,false)],Ss 16 (E3 (Tr.ite) (v 10) e268 (Xf))),([],Ss 17 (E3 (Tr.ite) (v 14) (Xt) (v 16))),([(Ee (v 4) (N 3),true),(v 17,false)],Sc 17 [v 7] 18 1),([(v 17,false)],Ss 19 (E3 (Tr.ite) e132 (E1 (U.not) (v 18)) (Xf))),([],Ss 20 (E3 (Tr.ite) (v 17) (Xt) (v 19)))]) (Pc (v 20) e57 Pk)) (Ps (Pz (Pb 2 (Ps (Pz (Pc e187 (Ps (Pi [([],Sc 25 [v 0,v 1,v 2,v 3,Sb (v 5) (N 1),v 6] 21 3)]) (Pr [v 0,v 1,v 21,v 3,v 22,v 23])) (Pz (Pc e132 (Ps (Ps (Pi [([],Sc 21 [v 2,Sb (v 5) (N 1),v 6] 21 2)]) (Pz (Pc (v 22) (Ps (Pi [([],Sk e143),([],Sk (An (Le (N 0) (v 21)) (Lt (v 21) (Ln e236)))),([],Ss 23 e172),([],Ss 24 e236),([],Ss 25 (E3 (Tr.setI) (v 24) (v 21) (E2 (B.setC 1) (Ix (v 24) (v 21)) (v 7)))),([],Ss 26 (E3 (Tr.setI) (v 23) e12 (E2 (B.setC 3) (Ix (v 23) e12) (v 25))))]) (Pi [([],Sm 23 [v 26])])) (Ps (Pi [([],Sk e143),([],Ss 23 (E2 (B.cons) e226 Xn)),([],Ss 24 e172),([],Ss 25 e236),([],Sc 26 [v 25,v 21,v 23] 26 1),([],Ss 27 (E3 (Tr.setI) (v 24) e12 (E2 (B.setC 3) (Ix (v 24) e12) (v 26))))]) (Pi [([],Sm 23 [v 27])]))))) (Pi [([],Sm 21 [v 1,v 23])])) (Ps (Pz (Pc (Ee (v 4) (N 4)) (Ps (Pi [([],Sc 28 [v 0,v 1,v 2,v 3,Sb (v 5) (N 1)] 21 4)]) (Pr [v 22,v 23,E3 (Tr.ext) (v 21) (N 0) e49,v 3,Exp.str [],v 24])) (Pz (Pc e235 (Ps (Pi [([],Sc 36 [v 0,v 1,v 2,v 3,Sb (v 5) (N 1)] 21 5)]) (Pr [v 23,E3 (Tr.ext) (v 21) (N 0) e41,E3 (Tr.ext) (v 22) (N 0) e49,v 24,Exp.str [],v 25])) (Pz (Pc e234 (Ps (Ps (Ps (Pi [([],Sk e143)]) (Pb 3 (Ps (Pi [([],Sm 21 [v 1,Ce 3 e52,N 0])]) (Pl (Ps (Pz (Ps (Pc (Lt (v 23) (Ln e236)) Pk (Ps (Pi [([],Sm 21 [v 21])]) (Px 3))) (Ps (Pb 4 (Ps (Ps (Pi [([],Sk (An (Le (N 0) (v 23)) (Lt (v 23) (Ln (v 22))))),([],Ss 24 (Ix (v 22) (v 23)))]) (Ps (Pi [([],Sc 24 [v 0,v 21,v 2,v 3,Ce 0 (v 24)] 25 2)]) (Pi [([],Ss 27 e52),([],Sk (An (Le (N 0) (v 25)) (Lt (v 25) e335))),([],Ss 28 (E3 (Tr.setI) (v 21) (v 25) (E2 (B.cons) (Ce 0 (v 24)) (E2 (B.cons) (Ce 1 (v 24)) (E2 (B.cons) (Ce 4 (v 27)) (E2 (B.cons) (Ce 5 (v 27)) (E2 (B.cons) (Ce 6 (v 27)) e364)))))))]))) (Pi [([],Sm 24 [v 28,v 22])]))) (Pi [])))) (Pi [([],Sm 21 [v 24,v 25,Ad (v 23) (N 1)])])))))) (Pi [([],Ss 22 e194)])) e98) (Ps (Pz (Pc e313 (Ps (Pi [([],Sc 33 [v 0,v 1,v 2,v 3,Sb (v 5) (N 1)] 21 2)]) e98) (Ps Pk (Pi [([],Sm 21 [v 1,v 2])])))) e98))))))) e98))))) e98))) (Pz (Pr [v 0,v 21,v 22,v 3,Exp.str [],N 0]))))))))))
theorem i37:Qi 37 p37:=zac (S:=s37) (no0:=4) (h:=h37) tabOk (by kernel_rfl) Go.Proofs.Tryz.func107 rfl (by kernel_rfl) (by kernel_rfl)
def h38:Hint:=Hz (Hz (Hz e82))
def p38:PI:=Pz (Ps (Pi [([],Sc 10 [v 0,v 1,v 2,v 3] 8 4)]) (Ps (Pi [([],Sc 37 [v 8,v 9,v 10,v 11,v 4,v 5,v 6,v 7] 12 6)]) (Ps (Ps (Pi [([],Ss 18 (E3 (Tr.ite) e250 (E2 (B.cmp (BinOp.neq)) (v 17) (N 3)) (Xf)))]) (Pc (v 18) (Ps (Pi [([],Sc 10 [v 0,v 1,v 2,v 3] 19 4)]) (Pr [v 19,v 20,v 21,v 22,Exp.str [],v 17])) Pk)) (Pz (Pr [v 12,v 13,v 14,v 15,v 16,v 17])))))
theorem i38:Qi 38 p38:=zac (S:=s38) (no0:=3) (h:=h38) tabOk (by kernel_rfl) Go.Proofs.Tryz.func75 rfl (by kernel_rfl) (by kernel_rfl)
def h39:Hint:=Hz (Hs e5 (Hz (Hz (Hs (Hz (Hb (Jn [(4,[],Jp 1 0),(7,[],Jp 2 0),(8,[],Js 14 3)] [(0,[],Or false 71 (v 1)),(1,[],Ob true [Leaf.int (.i64) (N 0),Leaf.nil,Leaf.nil,Leaf.nil]),(11,[],Or true 78 (v 6)),(12,[],Or true 65 (v 7)),(13,[],Or true 3 (v 8)),(2,[],Ob true [Li 5,Ow 11 78,Ow 12 65,Ow 13 3]),(14,[],Or true 3 (v 9))] 5 5 15) (Hl (Jn [(4,[],Jp 1 0),(7,[],Jp 2 0),(8,[],Js 14 3),(26,[],Js 0 71),(27,[],SV.s e30),(28,[],J 10)] [(0,[],Or false 71 (v 1)),(1,[],Ob true [Leaf.int (.i64) (N 0),Leaf.nil,Leaf.nil,Leaf.nil]),(11,[],Or true 78 (v 6)),(12,[],Or true 65 (v 7)),(13,[],Or true 3 (v 8)),(2,[],Ob true [Li 5,Ow 11 78,Ow 12 65,Ow 13 3]),(14,[],Or true 3 (v 9))] 5 6 15) (Hz (Hs e19 (Hs (Hb (Jn [(4,[],Jp 1 0),(7,[],Jp 2 0),(8,[],Js 21 3),(26,[],Js 0 71),(27,[],SV.s e30),(28,[],J 10)] [(0,[],Or false 71 (v 1)),(1,[],Ob true [Leaf.int (.i64) (N 0),Leaf.nil,Leaf.nil,Leaf.nil]),(16,[],Or true 78 (v 12)),(17,[],Or true 65 (v 13)),(18,[],Or true 3 (v 14)),(2,[],Ob true [Li 11,Ow 16 78,Ow 17 65,Ow 18 3]),(21,[],Or true 3 (v 15))] 11 5 22) (Hz e89)) Hn)))))) (Hz Hn)))))
def p39:PI:=Pz (Ps (Ps (Pi [([],Sc 9 [v 0,N 1,N 1000] 2 1),([],Ss 3 e136)]) e196) (Pz (Ps (Pi [([],Ss 4 Xn)]) (Ps (Pz (Pb 0 (Ps (Pi [([],Sm 5 [v 0,Xn,Xn,Xn,v 4,N 0])]) (Pl (Ps (Pz (Ps (Pc e248 Pk (Ps (Pi [([],Sm 5 [v 5,v 6,v 7,v 8,v 9])]) (Px 0))) (Ps (Pb 1 (Ps (Ps (Pi [([],Sk e104),([],Ss 11 e223)]) (Ps (Pi [([],Sc 38 [v 5,v 6,v 7,v 8,Ce 0 (v 11),Ce 1 (v 11),Ce 2 (v 11),Ce 3 (v 11)] 12 6)]) (Pz (Pi [([],Ss 18 e354),([],Ss 19 (E2 (B.cat) (v 9) (v 18))),([],Sk (Le (Ln (v 19)) e121))])))) (Pi [([],Sm 11 [v 12,v 13,v 14,v 15,v 19])]))) (Pi [])))) (Pi [([],Sm 5 [v 11,v 12,v 13,v 14,v 15,Ad (v 10) (N 1)])])))))) (Pz (Pr [v 5,v 6,v 7,v 8,v 9,Xt]))))))
theorem i39:Qi 39 p39:=zac (S:=s39) (no0:=1) (h:=h39) tabOk (by kernel_rfl) Go.Proofs.Tryz.func28 rfl (by kernel_rfl) (by kernel_rfl)
def h40:Hint:=Hz (Hz Hn)
def p40:PI:=Pz e101
theorem i40:Qi 40 p40:=zac (S:=s40) (no0:=0) (h:=h40) tabOk (by kernel_rfl) Go.Proofs.Tryz.func76 rfl (by kernel_rfl) (by kernel_rfl)
def h41:Hint:=Hz (Hz (Hz (Hz (Hs (Hz (Hb (Jn [(1,[],Jp 3 0),(2,[],Jp 4 0),(3,[],Js 19 65)] [(0,[],Or false 78 (v 1)),(1,[],Or false 65 (v 2)),(2,[],Or false 3 (v 3)),(6,[],Or true 78 (v 5)),(8,[],Or true 3 (v 7)),(3,[],Ob true [Li 0,Ow 6 78,Ow 1 65,Ow 8 3]),(4,[],Ob true [Leaf.int (.i64) (N 0),Leaf.nil,Leaf.nil,Leaf.nil]),(19,[],Or true 65 (v 8))] 8 1 20) (Hl (Jn [(1,[],Jp 3 0),(2,[],Jp 4 0),(3,[],Js 19 65),(17,[],Js 1 65),(18,[],SV.s e33),(19,[],J 9)] [(0,[],Or false 78 (v 1)),(1,[],Or false 65 (v 2)),(2,[],Or false 3 (v 3)),(6,[],Or true 78 (v 5)),(8,[],Or true 3 (v 7)),(3,[],Ob true [Li 0,Ow 6 78,Ow 1 65,Ow 8 3]),(4,[],Ob true [Leaf.int (.i64) (N 0),Leaf.nil,Leaf.nil,Leaf.nil]),(19,[],Or true 65 (v 8))] 8 2 20) (Hz (Hs e19 (Hs (Hb (Jn [(1,[],Jp 3 0),(2,[],Jp 4 0),(3,[],Js 28 65),(17,[],Js 1 65),(18,[],SV.s e33),(19,[],J 9)] [(0,[],Or false 78 (v 1)),(1,[],Or false 65 (v 2)),(2,[],Or false 3 (v 3)),(6,[],Or true 78 (v 5)),(8,[],Or true 3 (v 7)),(3,[],Ob true [Li 0,Ow 6 78,Ow 1 65,Ow 8 3]),(4,[],Ob true [Leaf.int (.i64) (N 0),Leaf.nil,Leaf.nil,Leaf.nil]),(28,[],Or true 65 (v 10))] 10 1 29) (Hz e89)) Hn)))))) e89))))
def p41:PI:=Pz (Ps (Pi [([],Ss 4 Xn),([],Ss 5 e348),([],Sk (Le e266 e173))]) (Ps (Pi [([],Ss 6 Xn),([],Ss 7 e347),([],Sk (Le e131 e121))]) (Pz (Ps e8 (Pz e297)))))
theorem i41:Qi 41 p41:=zac (S:=s41) (no0:=3) (h:=h41) tabOk (by kernel_rfl) Go.Proofs.Tryz.func78 rfl (by kernel_rfl) (by kernel_rfl)
def h42:Hint:=Hz (Hs e5 (Hint.stuck))
def p42:PI:=Pz (Ps (Pz (Pc (Lt (v 0) (N 10)) (Ps (Pi [([],Ss 1 (E2 (B.cons) (E1 (U.conv (.u8)) (Ad (N 48) (v 0))) Xn)),([],Ss 2 (E1 (U.unbytes) (v 1)))]) (Pr [v 2])) Pk)) e135)
theorem i42:Qi 42 p42:=zac (S:=s42) (no0:=0) (h:=h42) tabOk (by kernel_rfl) Go.Proofs.Tryz.func70 rfl (by kernel_rfl) (by kernel_rfl)
def h43:Hint:=Hz (Hs e5 (Hs (Hr (mt (mf (mf e120 mo) mo) (mt (mf e120 mo) (mt e120 (mt mo e238))))) Hn))
def pq1 (z9:Nat):PI:=Pz (Ps (Pz (Pc (Lt (v 0) (N 10)) (Ps (Pi [([],Ss 1 (E2 (B.cons) (E1 (U.conv (.u8)) (Ad (N 48) (v 0))) Xn)),([],Ss 2 (E1 (U.unbytes) (v 1)))]) (Pr [v 2])) Pk)) (Ps (Pi [([],Sc z9 [E2 (B.ar (BinOp.quo) (.i64)) (v 0) (N 10)] 1 1),([],Ss 2 (E2 (B.cons) (E1 (U.conv (.u8)) (Ad (N 48) (E2 (B.ar (BinOp.rem) (.i64)) (v 0) (N 10)))) Xn)),([],Ss 3 (E1 (U.unbytes) (v 2))),([],Ss 4 (E2 (B.scat) (v 1) (v 3))),([],Sk (Le (E1 (U.slen) (v 4)) (N 4611686018427387904)))]) (Pr [v 4])))
def p43:PI:=pq1 42
theorem i43:Qi 43 p43:=zac (S:=s43) (no0:=0) (h:=h43) tabOk (by kernel_rfl) Go.Proofs.Tryz.func70 rfl (by kernel_rfl) (by kernel_rfl)
def h44:Hint:=h43
def p44:PI:=pq1 43
theorem i44:Qi 44 p44:=zac (S:=s44) (no0:=0) (h:=h44) tabOk (by kernel_rfl) Go.Proofs.Tryz.func70 rfl (by kernel_rfl) (by kernel_rfl)
def h45:Hint:=h43
def p45:PI:=pq1 44
theorem i45:Qi 45 p45:=zac (S:=s45) (no0:=0) (h:=h45) tabOk (by kernel_rfl) Go.Proofs.Tryz.func70 rfl (by kernel_rfl) (by kernel_rfl)
def h46:Hint:=h43
def p46:PI:=pq1 45
theorem i46:Qi 46 p46:=zac (S:=s46) (no0:=0) (h:=h46) tabOk (by kernel_rfl) Go.Proofs.Tryz.func70 rfl (by kernel_rfl) (by kernel_rfl)
def h47:Hint:=h43
def p47:PI:=pq1 46
theorem i47:Qi 47 p47:=zac (S:=s47) (no0:=0) (h:=h47) tabOk (by kernel_rfl) Go.Proofs.Tryz.func70 rfl (by kernel_rfl) (by kernel_rfl)
def h48:Hint:=h43
def p48:PI:=pq1 47
theorem i48:Qi 48 p48:=zac (S:=s48) (no0:=0) (h:=h48) tabOk (by kernel_rfl) Go.Proofs.Tryz.func70 rfl (by kernel_rfl) (by kernel_rfl)
def h49:Hint:=h43
def p49:PI:=pq1 48
theorem i49:Qi 49 p49:=zac (S:=s49) (no0:=0) (h:=h49) tabOk (by kernel_rfl) Go.Proofs.Tryz.func70 rfl (by kernel_rfl) (by kernel_rfl)
def h50:Hint:=h43
def p50:PI:=pq1 49
theorem i50:Qi 50 p50:=zac (S:=s50) (no0:=0) (h:=h50) tabOk (by kernel_rfl) Go.Proofs.Tryz.func70 rfl (by kernel_rfl) (by kernel_rfl)
def h51:Hint:=Hz e82
def p51:PI:=Pz (Ps (Ps (Pi [([],Sc 40 [v 4,N 1,Ln (v 2)] 5 1)]) (Pc (E1 (U.not) (v 5)) e198 Pk)) (Ps (Pi [([],Sk e73)]) (Pr [Ce 1 e169])))
theorem i51:Qi 51 p51:=zac (S:=s51) (no0:=3) (h:=h51) tabOk (by kernel_rfl) Go.Proofs.Tryz.func87 rfl (by kernel_rfl) (by kernel_rfl)
def h52:Hint:=Hz (Hs (Hz (Hb e139 (Hl e186 (Hs (Hz e19) (Hs (Hb e185 (Hz e5)) Hn))))) (Hz Hn))
def p52:PI:=Pz (Ps (Pz (Pb 0 (Ps e162 (Pl (Ps (Ps (Pz e103) (Ps (Pb 1 (Ps (Ps (Pi [([],Sk e110)]) (Ps (Pi [([],Ss 2 (E3 (Tr.ite) (E2 (B.cmp (BinOp.geq)) e76 (N 97)) (Le e76 (N 122)) (Xf))),([(v 2,false)],Ss 3 (E3 (Tr.ite) (E2 (B.cmp (BinOp.geq)) e76 (N 48)) (Le e76 (N 57)) (Xf))),([],Ss 4 (E3 (Tr.ite) (v 2) (Xt) (v 3)))]) (Pc (E1 (U.not) (v 4)) e42 Pk))) e123)) (Pi []))) e115))))) (Ps (Pi [([],Sc 40 [E1 (U.slen) (v 0),N 1,N 8] 1 1)]) e361))
theorem i52:Qi 52 p52:=zac (S:=s52) (no0:=0) (h:=h52) tabOk (by kernel_rfl) Go.Proofs.Tryz.func85 rfl (by kernel_rfl) (by kernel_rfl)
def h53:Hint:=Hz (Hs (Hz (Hb e139 (Hl e186 (Hs (Hz e19) (Hs (Hb e185 e5) Hn))))) (Hz Hn))
def p53:PI:=Pz (Ps (Pz (Pb 0 (Ps e162 (Pl (Ps (Ps (Pz e103) (Ps (Pb 1 (Ps e28 e123)) (Pi []))) e115))))) e334)
theorem i53:Qi 53 p53:=zac (S:=s53) (no0:=0) (h:=h53) tabOk (by kernel_rfl) Go.Proofs.Tryz.func86 rfl (by kernel_rfl) (by kernel_rfl)
def h54:Hint:=Hz (Hs (Hz (Hb (Jn [(1,[],SV.s (Sq e156)),(4,[],Jp 4 0)] [(0,[],Or false 78 (v 1)),(1,[],Or false 65 (v 2)),(2,[],Or false 3 (v 3)),(4,[],Ob true [Lz (Exp.str []),Lz (Exp.str []),Leaf.int (.i64) (N 0),Leaf.int (.i64) (N 0),Lb (Xf),Leaf.int (.i64) (N 0)])] 5 0 6) (Hl (Jn [(1,[],SV.s (Sq e156)),(4,[],Jp 4 0),(9,[],Js 0 78),(10,[],SV.s e30),(11,[],J 5)] [(0,[],Or false 78 (v 1)),(1,[],Or false 65 (v 2)),(2,[],Or false 3 (v 3)),(4,[],Ob true [Lz (Exp.str []),Lz (Exp.str []),Leaf.int (.i64) (N 0),Leaf.int (.i64) (N 0),Lb (Xf),Leaf.int (.i64) (N 0)])] 5 1 6) (Hz (Hs e19 (Hs (Hb (Jn [(1,[],SV.s (Sq e156)),(4,[],Jp 4 0),(9,[],Js 0 78),(10,[],SV.s e30),(11,[],J 5)] [(0,[],Or false 78 (v 1)),(1,[],Or false 65 (v 2)),(2,[],Or false 3 (v 3)),(4,[],Ob true [Lz (Exp.str []),Lz (Exp.str []),Leaf.int (.i64) (N 0),Leaf.int (.i64) (N 0),Lb (Xf),Leaf.int (.i64) (N 0)])] 6 0 7) (Hz e5)) Hn)))))) (Hz Hn))
def p54:PI:=Pz (Ps (Pz (Pb 0 (Ps (Pi [([],Sm 5 [N 0])]) (Pl (Ps (Pz (Ps (Pc (Lt (v 5) e41) Pk (Ps (Pi [([],Sm 5 [])]) (Px 0))) (Ps (Pb 1 (Ps (Ps (Pi [([],Sk e256),([],Ss 6 (Ix (v 1) (v 5)))]) (Pz (Pc (E2 (B.scmp (BinOp.eql)) e133 (v 4)) (Pz (Pr [Ce 0 (v 6),Ce 1 (v 6),Ce 2 (v 6),Ce 3 (v 6),Ce 4 (v 6),Ce 5 (v 6),Xt])) Pk))) (Pi [([],Sm 6 [])]))) (Pi [])))) (Pi [([],Sm 5 [Ad (v 5) (N 1)])])))))) (Pz (Pr [v 4,Exp.str [],N 0,N 0,Xf,N 0,Xf])))
theorem i54:Qi 54 p54:=zac (S:=s54) (no0:=3) (h:=h54) tabOk (by kernel_rfl) Go.Proofs.Tryz.func119 rfl (by kernel_rfl) (by kernel_rfl)
def h55:Hint:=Hz (Hz (Hs (Hz (Hb (Jn [(1,[],J 4),(2,[],SV.s e106),(3,[],Jp 3 0),(6,[],Jp 4 0),(9,[],Jp 7 0)] [(0,[],Or false 78 (v 1)),(1,[],Or true 65 (v 2)),(2,[],Or false 3 (v 3)),(3,[],Ob true [Li 0,Ow 0 78,Ow 1 65,Ow 2 3]),(4,[],Ob true [Leaf.int (.i64) (N 0),Leaf.nil,Leaf.nil,Leaf.nil]),(5,[],Obj.view 1 (v 2) e9 2 84 (v 7)),(6,[],Obj.view 1 (v 2) e9 3 67 (v 8)),(7,[],Ob true [Leaf.int (.i64) e133,Leaf.int (.i64) e166,Ow 5 84,Ow 6 67,Leaf.int (.i64) e191,Leaf.int (.i64) e190,Lb e188])] 7 2 9) (Hl (Jn [(1,[],J 4),(2,[],SV.s e106),(3,[],Jp 3 0),(6,[],Jp 4 0),(9,[],Jp 7 0),(23,[],Js 6 67),(24,[],SV.s e228),(25,[],J 9)] [(0,[],Or false 78 (v 1)),(1,[],Or true 65 (v 2)),(2,[],Or false 3 (v 3)),(3,[],Ob true [Li 0,Ow 0 78,Ow 1 65,Ow 2 3]),(4,[],Ob true [Leaf.int (.i64) (N 0),Leaf.nil,Leaf.nil,Leaf.nil]),(5,[],Obj.view 1 (v 2) e9 2 84 (v 7)),(6,[],Obj.view 1 (v 2) e9 3 67 (v 8)),(7,[],Ob true [Leaf.int (.i64) e133,Leaf.int (.i64) e166,Ow 5 84,Ow 6 67,Leaf.int (.i64) e191,Leaf.int (.i64) e190,Lb e188])] 7 3 9) (Hz (Hs e19 (Hs (Hb (Jn [(1,[],J 4),(2,[],SV.s e106),(3,[],Jp 3 0),(6,[],Jp 4 0),(9,[],Jp 7 0),(23,[],Js 6 67),(24,[],SV.s e228),(25,[],J 9)] [(0,[],Or false 78 (v 1)),(1,[],Or true 65 (v 2)),(2,[],Or false 3 (v 3)),(3,[],Ob true [Li 0,Ow 0 78,Ow 1 65,Ow 2 3]),(4,[],Ob true [Leaf.int (.i64) (N 0),Leaf.nil,Leaf.nil,Leaf.nil]),(5,[],Obj.view 1 (v 2) e9 2 84 (v 10)),(6,[],Obj.view 1 (v 2) e9 3 67 (v 11)),(7,[],Ob true [Leaf.int (.i64) e133,Leaf.int (.i64) e166,Ow 5 84,Ow 6 67,Leaf.int (.i64) e191,Leaf.int (.i64) e190,Lb e188])] 10 2 10) e320) Hn)))))) (Hs (Hz (Hb (Jn [(1,[],J 4),(2,[],SV.s e106),(3,[],Jp 3 0),(6,[],Jp 4 0),(9,[],Jp 7 0)] [(0,[],Or false 78 (v 1)),(1,[],Or true 65 (v 2)),(2,[],Or false 3 (v 3)),(3,[],Ob true [Li 0,Ow 0 78,Ow 1 65,Ow 2 3]),(4,[],Ob true [Leaf.int (.i64) (N 0),Leaf.nil,Leaf.nil,Leaf.nil]),(5,[],Obj.view 1 (v 2) e9 2 84 (v 9)),(6,[],Obj.view 1 (v 2) e9 3 67 (v 10)),(7,[],Ob true [Leaf.int (.i64) e133,Leaf.int (.i64) e166,Ow 5 84,Ow 6 67,Leaf.int (.i64) e191,Leaf.int (.i64) e190,Lb e188])] 9 2 10) (Hl (Jn [(1,[],J 4),(2,[],SV.s e106),(3,[],Jp 3 0),(6,[],Jp 4 0),(9,[],Jp 7 0),(38,[],Js 5 84),(39,[],SV.s e29),(40,[],J 11)] [(0,[],Or false 78 (v 1)),(1,[],Or true 65 (v 2)),(2,[],Or false 3 (v 3)),(3,[],Ob true [Li 0,Ow 0 78,Ow 1 65,Ow 2 3]),(4,[],Ob true [Leaf.int (.i64) (N 0),Leaf.nil,Leaf.nil,Leaf.nil]),(5,[],Obj.view 1 (v 2) e9 2 84 (v 9)),(6,[],Obj.view 1 (v 2) e9 3 67 (v 10)),(7,[],Ob true [Leaf.int (.i64) e133,Leaf.int (.i64) e166,Ow 5 84,Ow 6 67,Leaf.int (.i64) e191,Leaf.int (.i64) e190,Lb e188])] 9 3 10) (Hz (Hs e19 (Hs (Hb (Jn [(1,[],J 4),(2,[],SV.s e106),(3,[],Jp 3 0),(6,[],Jp 4 0),(9,[],Jp 7 0),(38,[],Js 5 84),(39,[],SV.s e29),(40,[],J 11)] [(0,[],Or false 78 (v 1)),(1,[],Or true 65 (v 2)),(2,[],Or false 3 (v 3)),(3,[],Ob true [Li 0,Ow 0 78,Ow 1 65,Ow 2 3]),(4,[],Ob true [Leaf.int (.i64) (N 0),Leaf.nil,Leaf.nil,Leaf.nil]),(5,[],Obj.view 1 (v 2) e9 2 84 (v 12)),(6,[],Obj.view 1 (v 2) e9 3 67 (v 13)),(7,[],Ob true [Leaf.int (.i64) e133,Leaf.int (.i64) e166,Ow 5 84,Ow 6 67,Leaf.int (.i64) e191,Leaf.int (.i64) e190,Lb e188])] 12 2 11) e320) Hn)))))) (Hz (Hs (Hb (Jn [(1,[],J 4),(2,[],SV.s e106),(3,[],Jp 3 0),(6,[],Jp 4 0),(9,[],Jp 7 0),(14,[],Jp 10 0)] [(0,[],Or false 78 (v 1)),(1,[],Or true 65 (v 2)),(2,[],Or false 3 (v 3)),(3,[],Ob true [Li 0,Ow 0 78,Ow 1 65,Ow 2 3]),(4,[],Ob true [Leaf.int (.i64) (N 0),Leaf.nil,Leaf.nil,Leaf.nil]),(5,[],Obj.view 1 (v 2) e9 2 84 (v 18)),(6,[],Obj.view 1 (v 2) e9 3 67 (v 19)),(7,[],Ob true [Leaf.int (.i64) e133,Leaf.int (.i64) e166,Ow 5 84,Ow 6 67,Leaf.int (.i64) e191,Leaf.int (.i64) e190,Lb e188]),(10,[],Ob true [Lz (v 11),Lz (v 12),Li 13,Li 14,Lb (v 15),Li 16])] 18 2 11) e206) (Hs (Hr (mt (mf (mf mo (mt mo (mt e331 e368))) mo) (mf (mf mo (mf mo (mf e331 e368))) (mf mo (mf mo e140))))) e112))))))
def p55:PI:=Pz (Ps (Pi [([],Sk e73),([],Ss 6 e169),([],Sk (E1 (U.isList) (Ce 2 (v 6)))),([],Sk (E1 (U.isList) (Ce 3 (v 6))))]) (Ps (Pz (Pb 0 (Ps (Pi [([],Sm 7 [Ce 2 (v 6),Ce 3 (v 6),N 0])]) (Pl (Ps (Pz (Ps (Pc (Lt (v 9) (Ln (Ce 3 (v 6)))) Pk (Ps (Pi [([],Sm 7 [v 7,v 8])]) (Px 0))) (Ps (Pb 1 (Ps (Ps e69 (Pz (Pc e212 (Pz (Pr [v 2,v 0,Ce 1 (v 10),N 0])) Pk))) (Pi [([],Sm 10 [v 7,v 8])]))) (Pi [])))) e204))))) (Ps (Pz (Pb 2 (Ps (Pi [([],Sm 9 [v 7,v 8,N 0])]) (Pl (Ps (Pz (Ps (Pc (Lt (v 11) e131) Pk (Ps e178 (Px 2))) (Ps (Pb 3 (Ps (Ps e116 (Pz (Pc (E2 (B.scmp (BinOp.eql)) e292 (v 5)) (Pz (Pr [v 2,v 0,Ce 1 (v 12),N 0])) Pk))) (Pi [([],Sm 12 [v 9,v 10])]))) (Pi [])))) e201))))) (Ps (Pi [([],Sc 54 [v 0,v 1,v 2,v 3,v 5] 11 7)]) (Ps (Pb 4 (Ps (Pz (Pc e142 (Pz (Pr [v 2,v 0,Exp.str [],N 2])) (Pz (Pc (Ee e310 (N 40)) (Pz (Pr [v 2,v 0,Exp.str [],N 4])) Pk)))) (Pi [([],Sm 18 [v 9,v 10])]))) (Ps (Pi [([],Ss 20 (E2 (B.cons) (E2 (B.cons) (v 5) (E2 (B.cons) (v 12) (E2 (B.cons) (v 13) (E2 (B.cons) (v 14) (E2 (B.cons) (v 15) Xn))))) Xn)),([],Ss 21 (E3 (Tr.setI) (v 2) e9 (E2 (B.setC 2) e169 (Ce 5 (N 0))))),([],Ss 22 (v 18)),([],Ss 23 (E2 (B.cat) (v 22) (v 20))),([],Sk (Le (Ln (v 23)) e298)),([],Sk (An e363 (Lt e9 e335))),([],Ss 24 (E3 (Tr.setI) (v 21) e9 (E2 (B.setC 2) (Ix (v 21) e9) (v 23))))]) (Pz (Pr [v 24,v 0,v 12,N 0]))))))))
theorem i55:Qi 55 p55:=zac (S:=s55) (no0:=3) (h:=h55) tabOk (by kernel_rfl) Go.Proofs.Tryz.func108 rfl (by kernel_rfl) (by kernel_rfl)
def h56:Hint:=Hz (Hz (Hs (Hb e92 (Hl e92 (Hs (Hs e119 e19) (Hb (Jn [(0,[],Js 0 67),(3,[],Jp 1 0),(5,[],SV.s (Sq (Leaf.int (.i64) (Ad (v 3) (N 1)))))] [(0,[],Or false 67 (v 0)),(1,[],Ob true [Lz (v 1),Lz (v 2)])] 5 0 2) Hn)))) (Hz (Hz (Hz (Hs (Hs e119 (Hc (some (Jn [(0,[],Js 0 67),(5,[],J 8),(6,[],Js 4 67)] [(0,[],Or false 67 (v 0)),(4,[],Or true 67 (v 6))] 8 1 5)) Hn Hn)) (Hz Hn)))))))
def p56:PI:=Pz (Pz (Ps (Pb 0 (Ps e352 (Pl (Ps (Ps (Ps (Pi [([(Lt (v 3) e36,true)],Sk e257),([],Ss 4 (E3 (Tr.ite) e343 (E2 (B.scmp (BinOp.lss)) e355 (v 1)) (Xf)))]) (Pc (v 4) Pk (Ps (Pi [([],Sm 3 [v 3])]) (Px 0)))) (Pb 1 (Pz (Pi [([],Sm 5 [])])))) (Pi [([],Sm 3 [Ad (v 3) (N 1)])]))))) (Pz (Ps (Pi [([],Sk (An e122 (An (Le (N 0) (v 3)) (Le (v 3) e36)))),([],Ss 4 (E2 (B.cat) Xn (E3 (Tr.ext) (v 0) (N 0) (v 3)))),([],Sk (Le (Ln (v 4)) e220))]) (Ps (Pi [([],Ss 5 (E2 (B.cons) (E2 (B.cons) (v 1) (E2 (B.cons) (v 2) Xn)) Xn)),([],Ss 6 (E2 (B.cat) (v 4) (v 5))),([],Sk (Le e230 e220))]) (Ps (Ps (Pi [([(Lt (v 3) e36,true)],Sk e257),([],Ss 7 (E3 (Tr.ite) e343 (E2 (B.scmp (BinOp.eql)) e355 (v 1)) (Xf)))]) (Pc (v 7) (Pz (Pi [([],Sm 8 [Ad (v 3) (N 1)])])) (Ps Pk (Pi [([],Sm 8 [v 3])])))) (Ps (Pi [([],Sk (An e99 (An (Le (v 8) e36) (Le e36 e36)))),([],Ss 9 (E2 (B.cat) (v 6) (E3 (Tr.ext) (v 0) (v 8) (E2 (B.plus) (v 8) (E2 (B.minus) e36 (v 8)))))),([],Sk (Le e310 e220))]) (Pr [v 9]))))))))
theorem i56:Qi 56 p56:=zac (S:=s56) (no0:=1) (h:=h56) tabOk (by kernel_rfl) Go.Proofs.Tryz.func71 rfl (by kernel_rfl) (by kernel_rfl)
def h57:Hint:=Hz (Hz (Hs (Hb e34 (Hl e34 (Hs (Hs e85 e19) (Hb (Jn [(2,[],Jp 3 0),(3,[],Jp 4 0),(4,[],Jp 5 0),(5,[],SV.s (Sq (Leaf.int (.i64) (Ad (v 10) (N 1)))))] [(0,[],Or false 78 (v 1)),(1,[],Or false 65 (v 2)),(2,[],Or false 3 (v 3)),(3,[],Ob true [Li 0,Ow 0 78,Ow 1 65,Ow 2 3]),(4,[],Ob true [Lz (v 4),Lz (v 5),Li 6,Li 7,Lb (v 8),Li 9]),(5,[],Ob true [Leaf.int (.i64) (N 0),Leaf.nil,Leaf.nil,Leaf.nil])] 12 0 6) Hn)))) (Hz (Hz (Hz (Hs (Hs e85 (Hc (some (Jn [(2,[],Jp 3 0),(4,[],Jp 5 0),(5,[],J 15),(6,[],Js 8 78)] [(0,[],Or false 78 (v 1)),(1,[],Or false 65 (v 2)),(2,[],Or false 3 (v 3)),(3,[],Ob true [Li 0,Ow 0 78,Ow 1 65,Ow 2 3]),(5,[],Ob true [Leaf.int (.i64) (N 0),Leaf.nil,Leaf.nil,Leaf.nil]),(8,[],Or true 78 (v 13))] 15 1 9)) Hn Hn)) e89))))))
def p57:PI:=Pz (Pz (Ps (Pb 0 (Ps (Pi [([],Sm 10 [N 0])]) (Pl (Ps (Ps (Ps (Pi [([(Lt (v 10) e41,true)],Sk e104),([],Ss 11 (E3 (Tr.ite) e248 (E2 (B.scmp (BinOp.lss)) (Ce 0 e223) (v 4)) (Xf)))]) (Pc (v 11) Pk (Ps e149 (Px 0)))) (Pb 1 (Pz e246))) (Pi [([],Sm 10 [Ad (v 10) (N 1)])]))))) (Pz (Ps (Pi [([],Sk (An e122 (An e222 (Le (v 10) e41)))),([],Ss 11 (E2 (B.cat) Xn (E3 (Tr.ext) (v 1) (N 0) (v 10)))),([],Sk (Le e338 e173))]) (Ps (Pi [([],Ss 12 (E2 (B.cons) (E2 (B.cons) (v 4) (E2 (B.cons) (v 5) (E2 (B.cons) (v 6) (E2 (B.cons) (v 7) (E2 (B.cons) (v 8) (E2 (B.cons) (v 9) Xn)))))) Xn)),([],Ss 13 (E2 (B.cat) (v 11) (v 12))),([],Sk (Le (Ln (v 13)) e173))]) (Ps (Ps (Pi [([(Lt (v 10) e41,true)],Sk e104),([],Ss 14 (E3 (Tr.ite) e248 (E2 (B.scmp (BinOp.eql)) (Ce 0 e223) (v 4)) (Xf)))]) (Pc (v 14) (Pz (Pi [([],Sm 15 [Ad (v 10) (N 1)])])) (Ps Pk (Pi [([],Sm 15 [v 10])])))) (Ps (Pi [([],Sk (An (Le (N 0) (v 15)) (An (Le (v 15) e41) (Le e41 e41)))),([],Ss 16 (E2 (B.cat) (v 13) (E3 (Tr.ext) (v 1) (v 15) (E2 (B.plus) (v 15) (E2 (B.minus) e41 (v 15)))))),([],Sk (Le (Ln (v 16)) e173))]) (Pz (Pr [v 0,v 16])))))))))
theorem i57:Qi 57 p57:=zac (S:=s57) (no0:=3) (h:=h57) tabOk (by kernel_rfl) Go.Proofs.Tryz.func111 rfl (by kernel_rfl) (by kernel_rfl)
def h58:Hint:=Hz (Hz (Hz (Hs (Hz (Hb (Jn [(1,[],J 4),(2,[],Jp 3 0),(4,[],Jp 4 0),(6,[],Jp 7 0),(7,[],J 8)] [(0,[],Or true 78 (v 1)),(1,[],Or true 65 (v 2)),(2,[],Or false 3 (v 3)),(3,[],Ob true [Li 0,Ow 0 78,Ow 1 65,Ow 2 3]),(4,[],Ob true [Leaf.int (.i64) (N 0),Leaf.nil,Leaf.nil,Leaf.nil]),(5,[],Obj.view 1 (v 2) e9 2 84 (v 6)),(6,[],Obj.view 1 (v 2) e9 3 67 (v 7)),(7,[],Ob true [Leaf.int (.i64) e72,Leaf.int (.i64) e68,Ow 5 84,Ow 6 67,Leaf.int (.i64) e84,Leaf.int (.i64) e83,Lb e77])] 6 3 10) (Hl (Jn [(1,[],J 4),(2,[],Jp 3 0),(4,[],Jp 4 0),(6,[],Jp 7 0),(7,[],J 8),(23,[],Js 6 67),(24,[],SV.s e129),(25,[],J 9)] [(0,[],Or true 78 (v 1)),(1,[],Or true 65 (v 2)),(2,[],Or false 3 (v 3)),(3,[],Ob true [Li 0,Ow 0 78,Ow 1 65,Ow 2 3]),(4,[],Ob true [Leaf.int (.i64) (N 0),Leaf.nil,Leaf.nil,Leaf.nil]),(5,[],Obj.view 1 (v 2) e9 2 84 (v 6)),(6,[],Obj.view 1 (v 2) e9 3 67 (v 7)),(7,[],Ob true [Leaf.int (.i64) e72,Leaf.int (.i64) e68,Ow 5 84,Ow 6 67,Leaf.int (.i64) e84,Leaf.int (.i64) e83,Lb e77])] 6 4 10) (Hz (Hs e19 (Hs (Hb (Jn [(1,[],J 4),(2,[],Jp 3 0),(4,[],Jp 4 0),(6,[],Jp 7 0),(7,[],J 12),(23,[],Js 6 67),(24,[],SV.s e129),(25,[],J 9)] [(0,[],Or true 78 (v 1)),(1,[],Or true 65 (v 2)),(2,[],Or false 3 (v 3)),(3,[],Ob true [Li 0,Ow 0 78,Ow 1 65,Ow 2 3]),(4,[],Ob true [Leaf.int (.i64) (N 0),Leaf.nil,Leaf.nil,Leaf.nil]),(5,[],Obj.view 1 (v 2) e9 2 84 (v 10)),(6,[],Obj.view 1 (v 2) e9 3 67 (v 11)),(7,[],Ob true [Leaf.int (.i64) e72,Leaf.int (.i64) e68,Ow 5 84,Ow 6 67,Leaf.int (.i64) e84,Leaf.int (.i64) e83,Lb e77])] 10 3 12) (Hz (Hz (Hs e5 (Hz (Hc (some (Jn [(1,[],J 4),(2,[],Jp 3 0),(4,[],Jp 4 0),(6,[],Jp 7 0),(7,[],J 20),(23,[],Js 6 67),(24,[],SV.s e129),(25,[],J 9)] [(0,[],Or true 78 (v 1)),(1,[],Or true 65 (v 2)),(2,[],Or false 3 (v 3)),(3,[],Ob true [Li 0,Ow 0 78,Ow 1 65,Ow 2 3]),(4,[],Ob true [Leaf.int (.i64) (N 0),Leaf.nil,Leaf.nil,Leaf.nil]),(5,[],Obj.view 1 (v 2) e9 2 84 (v 18)),(6,[],Obj.view 1 (v 2) e9 3 67 (v 19)),(7,[],Ob true [Leaf.int (.i64) e72,Leaf.int (.i64) e68,Ow 5 84,Ow 6 67,Leaf.int (.i64) e84,Leaf.int (.i64) e83,Lb e77])] 18 3 12)) Hn Hn)))))) Hn)))))) (Hs e5 (Hs (Hz (Hb (Jn [(1,[],J 4),(2,[],Jp 3 0),(4,[],Jp 4 0)] [(1,[],Or true 65 (v 2)),(2,[],Or false 3 (v 3)),(13,[],Or true 78 (v 10)),(3,[],Ob true [Li 9,Ow 13 78,Ow 1 65,Ow 2 3]),(4,[],Ob true [Leaf.int (.i64) (N 0),Leaf.nil,Leaf.nil,Leaf.nil])] 9 2 14) (Hl (Jn [(1,[],J 4),(2,[],Jp 3 0),(4,[],Jp 4 0),(53,[],Js 6 67),(54,[],SV.s e29),(55,[],J 12)] [(1,[],Or true 65 (v 2)),(2,[],Or false 3 (v 3)),(13,[],Or true 78 (v 10)),(3,[],Ob true [Li 9,Ow 13 78,Ow 1 65,Ow 2 3]),(4,[],Ob true [Leaf.int (.i64) (N 0),Leaf.nil,Leaf.nil,Leaf.nil]),(6,[],Obj.view 1 (v 2) e9 3 67 (v 11))] 9 4 14) (Hz (Hs e19 (Hs (Hb (Jn [(1,[],J 4),(2,[],Jp 3 0),(4,[],Jp 4 0),(53,[],Js 6 67),(54,[],SV.s e29),(55,[],J 12)] [(1,[],Or true 65 (v 2)),(2,[],Or false 3 (v 3)),(16,[],Or true 78 (v 14)),(3,[],Ob true [Li 13,Ow 16 78,Ow 1 65,Ow 2 3]),(4,[],Ob true [Leaf.int (.i64) (N 0),Leaf.nil,Leaf.nil,Leaf.nil]),(6,[],Obj.view 1 (v 2) e9 3 67 (v 15))] 13 3 17) (Hz (Hz e89))) Hn)))))) e89)))))
def p58:PI:=Pz (Ps e94 (Pz (Ps (Pz (Pb 0 (Ps (Pi [([],Sm 6 [Ce 2 (v 5),Ce 3 (v 5),N 0,N 0])]) (Pl (Ps (Pz (Ps (Pc (Lt (v 9) (Ln (Ce 3 (v 5)))) Pk e209) (Ps (Pb 1 (Ps (Ps (Pi [([],Sk (An e157 (Lt (v 9) e131))),([],Ss 10 (Ix (v 7) (v 9)))]) (Ps e170 (Ps (Pz (Pc e142 e296 Pk)) (Pz (Pc (E1 (U.not) (v 17)) (Pz (Pi [([],Sm 18 [v 6,v 7,Ad (v 8) (N 1)])])) (Ps Pk (Pi [([],Sm 18 [v 6,v 7,v 8])]))))))) (Pi [([],Sm 10 [v 18,v 19,v 20])]))) (Pi [])))) e182))))) (Ps (Pz (Pc (E2 (B.cmp (BinOp.gtr)) (Ad e41 (v 8)) (N 40)) e295 Pk)) (Ps (Pz (Pb 2 (Ps (Pi [([],Sm 9 [v 0,v 1,v 7,N 0])]) (Pl (Ps (Pz (Ps (Pc (Lt (v 12) e131) Pk (Ps e178 (Px 2))) (Ps (Pb 3 (Ps (Ps (Pi [([],Sk (An (Le (N 0) (v 12)) (Lt (v 12) e338))),([],Ss 13 (Ix (v 11) (v 12)))]) (Ps (Pi [([],Sc 54 [v 9,v 10,v 2,v 3,Ce 0 (v 13)] 14 7)]) (Pz (Pz (Pi [([],Sc 57 [v 9,v 10,v 2,v 3,v 14,v 15,v 16,v 17,Xt,v 4] 21 2)]))))) (Pi [([],Sm 13 [v 21,v 22,v 11])]))) (Pi [])))) (Pi [([],Sm 9 [v 13,v 14,v 15,Ad (v 12) (N 1)])])))))) (Ps (Pi [([],Sk e73),([],Ss 11 (E3 (Tr.setI) (v 2) e9 (E2 (B.setC 1) e169 (N 2))))]) (Pz (Pr [v 11,v 9,v 10,N 0]))))))))
theorem i58:Qi 58 p58:=zac (S:=s58) (no0:=3) (h:=h58) tabOk (by kernel_rfl) Go.Proofs.Tryz.func109 rfl (by kernel_rfl) (by kernel_rfl)
def h59:Hint:=Hz e89
def p59:PI:=Pz (Pz (Pz (Pr [v 0,v 1,Xf])))
theorem i59:Qi 59 p59:=zac (S:=s59) (no0:=0) (h:=h59) tabOk (by kernel_rfl) Go.Proofs.Tryz.func172 rfl (by kernel_rfl) (by kernel_rfl)
def h60:Hint:=Hz (Hs (Hz (Hb (Jn [(1,[],J 4),(2,[],Jp 3 0),(4,[],Jp 4 0)] [(0,[],Or true 78 (v 5)),(1,[],Or true 65 (v 2)),(2,[],Or false 3 (v 3)),(3,[],Ob true [Li 0,Ow 0 78,Ow 1 65,Ow 2 3]),(4,[],Ob true [Leaf.int (.i64) (N 0),Leaf.nil,Leaf.nil,Leaf.nil])] 5 1 6) (Hl (Jn [(1,[],J 4),(2,[],Jp 3 0),(4,[],Jp 4 0),(8,[],Js 0 78),(9,[],SV.s e30),(10,[],J 6)] [(0,[],Or true 78 (v 5)),(1,[],Or true 65 (v 2)),(2,[],Or false 3 (v 3)),(3,[],Ob true [Li 0,Ow 0 78,Ow 1 65,Ow 2 3]),(4,[],Ob true [Leaf.int (.i64) (N 0),Leaf.nil,Leaf.nil,Leaf.nil])] 5 2 6) (Hz (Hs e19 (Hs (Hb (Jn [(1,[],J 4),(2,[],Jp 3 0),(4,[],Jp 4 0),(8,[],Js 0 78),(9,[],SV.s e30),(10,[],J 6)] [(0,[],Or true 78 (v 7)),(1,[],Or true 65 (v 2)),(2,[],Or false 3 (v 3)),(3,[],Ob true [Li 0,Ow 0 78,Ow 1 65,Ow 2 3]),(4,[],Ob true [Leaf.int (.i64) (N 0),Leaf.nil,Leaf.nil,Leaf.nil])] 7 1 7) (Hz (Hz (Hc (some (Jn [(1,[],J 4),(2,[],Jp 3 0),(4,[],Jp 4 0),(8,[],Js 0 78),(9,[],SV.s e30),(10,[],J 6)] [(0,[],Or true 78 (v 8)),(1,[],Or true 65 (v 2)),(2,[],Or false 3 (v 3)),(3,[],Ob true [Li 0,Ow 0 78,Ow 1 65,Ow 2 3]),(4,[],Ob true [Leaf.int (.i64) (N 0),Leaf.nil,Leaf.nil,Leaf.nil])] 8 1 7)) (Hz Hn) Hn)))) Hn)))))) e89)
def p60:PI:=Pz (Ps (Pz (Pb 0 (Ps e307 (Pl (Ps (Pz (Ps e319 (Ps (Pb 1 (Ps (Ps (Pi [([],Sk e95),([],Ss 7 e311)]) (Pz (Pc (Ee (Ce 5 (v 7)) (v 4)) (Ps (Ps (Pi [([],Sk e95),([],Ss 8 e154)]) (Pi [([],Sk (An e184 (Lt (v 6) (Ln (v 8))))),([],Ss 9 (E3 (Tr.setI) (v 8) (v 6) (E2 (B.setC 4) (Ix (v 8) (v 6)) (Xf))))])) (Pi [([],Sm 8 [v 9])])) (Ps Pk (Pi [([],Sm 8 [v 5])]))))) e350)) (Pi [])))) e240))))) (Ps (Pi [([],Sk e73),([],Ss 6 (E3 (Tr.setI) (v 2) e9 (E2 (B.setC 1) e169 (N 5))))]) (Pz (Pr [v 5,v 6,v 0]))))
theorem i60:Qi 60 p60:=zac (S:=s60) (no0:=3) (h:=h60) tabOk (by kernel_rfl) Go.Proofs.Tryz.func112 rfl (by kernel_rfl) (by kernel_rfl)
def h61:Hint:=Hz (Hs (Hb (Jn [] [] 6 0 2) e206) (Hz Hn))
def p61:PI:=Pz (Ps (Pb 0 (Ps (Ps (Pi [([(Lt (v 0) (v 3),false)],Ss 6 (E3 (Tr.ite) (Ee (v 0) (v 3)) (Lt (v 1) (v 4)) (Xf))),([],Ss 7 (E3 (Tr.ite) (Lt (v 0) (v 3)) (Xt) (v 6)))]) (Pc (v 7) e280 (Ps (Pi [([],Ss 8 (E3 (Tr.ite) (E2 (B.cmp (BinOp.gtr)) (v 0) (v 3)) (Xt) (E2 (B.cmp (BinOp.gtr)) (v 1) (v 4))))]) (Pc (v 8) e323 Pk)))) (Pi [([],Sm 6 [])]))) e198)
theorem i61:Qi 61 p61:=zac (S:=s61) (no0:=0) (h:=h61) tabOk (by kernel_rfl) Go.Proofs.Tryz.func80 rfl (by kernel_rfl) (by kernel_rfl)
def h62:Hint:=Hz (Hz (Hs (Hz (Hb (Jn [(1,[],J 1),(4,[],Jp 1 0),(6,[],Jp 2 0)] [(0,[],Or false 63 (v 0)),(1,[],Ob true [Leaf.int (.i64) (N 0),Leaf.int (.i64) (N 0),Lb (Xf)]),(2,[],Ob true [Li 2,Li 3,Lb (Xf)])] 2 2 4) (Hl (Jn [(1,[],J 1),(4,[],Jp 1 0),(6,[],Jp 2 0),(11,[],Js 0 63),(12,[],SV.s e20),(13,[],J 4)] [(0,[],Or false 63 (v 0)),(1,[],Ob true [Leaf.int (.i64) (N 0),Leaf.int (.i64) (N 0),Lb (Xf)]),(2,[],Ob true [Li 2,Li 3,Lb (Xf)])] 2 3 4) (Hz (Hs e19 (Hs (Hb (Jn [(1,[],J 1),(4,[],Jp 1 0),(6,[],Jp 2 0),(11,[],Js 0 63),(12,[],SV.s e20),(13,[],J 4)] [(0,[],Or false 63 (v 0)),(1,[],Ob true [Leaf.int (.i64) (N 0),Leaf.int (.i64) (N 0),Lb (Xf)]),(2,[],Ob true [Li 5,Li 6,Lb (Xf)])] 5 2 5) (Hz (Hz (Hc (some (Jn [(1,[],J 1),(4,[],Jp 1 0),(6,[],Jp 2 0),(11,[],Js 0 63),(12,[],SV.s e20),(13,[],J 4)] [(0,[],Or false 63 (v 0)),(1,[],Ob true [Leaf.int (.i64) (N 0),Leaf.int (.i64) (N 0),Lb (Xf)]),(2,[],Ob true [Li 7,Li 8,Lb (Xf)])] 7 2 5)) Hn Hn)))) Hn)))))) (Hs (Hr (mt (mf e51 (mf e14 e274)) (mf e51 (mf e14 (mf mo (mt mo (mt mo e200))))))) Hn)))
def p62:PI:=Pz (Pz (Ps (Pz (Pb 0 (Ps (Pi [([],Sm 2 [v 1,N 0,N 0])]) (Pl (Ps (Pz (Ps (Pc (Lt (v 4) e36) Pk (Ps (Pi [([],Sm 2 [v 2,v 3])]) (Px 0))) (Ps (Pb 1 (Ps (Ps (Pi [([],Sk (An (Le (N 0) (v 4)) (Lt (v 4) e36))),([],Ss 5 (Ix (v 0) (v 4)))]) (Ps (Pi [([],Sc 61 [Ce 0 (v 5),Ce 1 (v 5),Ce 2 (v 5),v 2,v 3,Xf] 6 1)]) (Pc (E2 (B.cmp (BinOp.geq)) (v 6) (N 0)) (Pz (Pi [([],Sm 7 [Ce 0 (v 5),Ad e68 (N 1)])])) (Ps Pk (Pi [([],Sm 7 [v 2,v 3])]))))) (Pi [([],Sm 5 [v 7,v 8])]))) (Pi [])))) (Pi [([],Sm 2 [v 5,v 6,Ad (v 4) (N 1)])])))))) (Ps (Pi [([],Ss 4 (E3 (Tr.ite) (Ee (v 2) (v 1)) (Le (v 3) (N 16777215)) (Xf)))]) (Pr [v 2,v 3,Xf,v 4]))))
theorem i62:Qi 62 p62:=zac (S:=s62) (no0:=1) (h:=h62) tabOk (by kernel_rfl) Go.Proofs.Tryz.func173 rfl (by kernel_rfl) (by kernel_rfl)
def h63:Hint:=Hz (Hz (Hz (Hs (Hz (Hb (Jn [(1,[],J 4),(2,[],Jp 3 0),(4,[],Jp 4 0),(6,[],Jp 7 0),(7,[],Js 13 63)] [(0,[],Or true 78 (v 1)),(1,[],Or true 65 (v 2)),(2,[],Or true 3 (v 3)),(3,[],Ob true [Li 0,Ow 0 78,Ow 1 65,Ow 2 3]),(4,[],Ob true [Leaf.int (.i64) (N 0),Leaf.nil,Leaf.nil,Leaf.nil]),(5,[],Obj.view 1 (v 2) e9 2 84 (v 6)),(6,[],Obj.view 1 (v 2) e9 3 67 (v 7)),(7,[],Ob true [Leaf.int (.i64) e72,Leaf.int (.i64) e68,Ow 5 84,Ow 6 67,Leaf.int (.i64) e84,Leaf.int (.i64) e83,Lb e77]),(13,[],Or true 63 (v 8))] 6 3 14) (Hl (Jn [(1,[],J 4),(2,[],Jp 3 0),(4,[],Jp 4 0),(6,[],Jp 7 0),(7,[],Js 13 63),(25,[],Js 5 84),(26,[],SV.s e55),(27,[],J 9)] [(0,[],Or true 78 (v 1)),(1,[],Or true 65 (v 2)),(2,[],Or true 3 (v 3)),(3,[],Ob true [Li 0,Ow 0 78,Ow 1 65,Ow 2 3]),(4,[],Ob true [Leaf.int (.i64) (N 0),Leaf.nil,Leaf.nil,Leaf.nil]),(5,[],Obj.view 1 (v 2) e9 2 84 (v 6)),(6,[],Obj.view 1 (v 2) e9 3 67 (v 7)),(7,[],Ob true [Leaf.int (.i64) e72,Leaf.int (.i64) e68,Ow 5 84,Ow 6 67,Leaf.int (.i64) e84,Leaf.int (.i64) e83,Lb e77]),(13,[],Or true 63 (v 8))] 6 4 14) (Hz (Hs e19 (Hs (Hb (Jn [(1,[],J 4),(2,[],Jp 3 0),(4,[],Jp 4 0),(6,[],Jp 7 0),(7,[],Js 17 63),(25,[],Js 5 84),(26,[],SV.s e55),(27,[],J 9)] [(0,[],Or true 78 (v 1)),(1,[],Or true 65 (v 2)),(2,[],Or true 3 (v 3)),(3,[],Ob true [Li 0,Ow 0 78,Ow 1 65,Ow 2 3]),(4,[],Ob true [Leaf.int (.i64) (N 0),Leaf.nil,Leaf.nil,Leaf.nil]),(5,[],Obj.view 1 (v 2) e9 2 84 (v 10)),(6,[],Obj.view 1 (v 2) e9 3 67 (v 11)),(7,[],Ob true [Leaf.int (.i64) e72,Leaf.int (.i64) e68,Ow 5 84,Ow 6 67,Leaf.int (.i64) e84,Leaf.int (.i64) e83,Lb e77]),(17,[],Or true 63 (v 12))] 10 3 18) (Hz (Hz (Hs (Hs (Hr (mt e6 (mt e50 (mt e25 (mt mo (mt mo (mt mo (mt mo (mt mo (mt mo (mt mo (mt mo (mt e51 (mt e14 e3)))))))))))))) e70) Hn)))) Hn)))))) (Hs (Hz (Hb (Jn [(1,[],J 4),(2,[],Jp 3 0),(4,[],Jp 4 0),(7,[],Js 18 63)] [(0,[],Or true 78 (v 1)),(1,[],Or true 65 (v 2)),(2,[],Or true 3 (v 3)),(3,[],Ob true [Li 0,Ow 0 78,Ow 1 65,Ow 2 3]),(4,[],Ob true [Leaf.int (.i64) (N 0),Leaf.nil,Leaf.nil,Leaf.nil]),(18,[],Or true 63 (v 9))] 9 1 19) (Hl (Jn [(1,[],J 4),(2,[],Jp 3 0),(4,[],Jp 4 0),(7,[],Js 18 63),(65,[],Js 6 67),(66,[],SV.s e29),(67,[],J 11)] [(0,[],Or true 78 (v 1)),(1,[],Or true 65 (v 2)),(2,[],Or true 3 (v 3)),(3,[],Ob true [Li 0,Ow 0 78,Ow 1 65,Ow 2 3]),(4,[],Ob true [Leaf.int (.i64) (N 0),Leaf.nil,Leaf.nil,Leaf.nil]),(18,[],Or true 63 (v 9)),(6,[],Obj.view 1 (v 2) e9 3 67 (v 10))] 9 3 19) (Hz (Hs e19 (Hs (Hb (Jn [(1,[],J 4),(2,[],Jp 3 0),(4,[],Jp 4 0),(7,[],Js 22 63),(65,[],Js 6 67),(66,[],SV.s e29),(67,[],J 11)] [(0,[],Or true 78 (v 1)),(1,[],Or true 65 (v 2)),(2,[],Or true 3 (v 3)),(3,[],Ob true [Li 0,Ow 0 78,Ow 1 65,Ow 2 3]),(4,[],Ob true [Leaf.int (.i64) (N 0),Leaf.nil,Leaf.nil,Leaf.nil]),(22,[],Or true 63 (v 12)),(6,[],Obj.view 1 (v 2) e9 3 67 (v 13))] 12 2 23) e89) Hn)))))) (Hz (Hs e5 (Hz (Hz e89))))))))
def p63:PI:=Pz (Ps e94 (Pz (Ps (Pz (Pb 0 (Ps (Pi [([],Sm 6 [Ce 2 (v 5),Ce 3 (v 5),Xn,N 0])]) (Pl (Ps (Pz (Ps (Pc (Lt (v 9) (Ln e217)) Pk e209) (Ps (Pb 1 (Ps (Ps (Pi [([],Sk (An e157 (Lt (v 9) e230))),([],Ss 10 (Ix (v 6) (v 9)))]) (Ps e170 (Ps (Ps (Pi [([],Sc 59 [v 13,v 14,v 15] 18 3),([(E1 (U.not) e100,false)],Ss 21 (E3 (Tr.ite) e142 (E2 (B.cmp (BinOp.neq)) (v 16) (v 4)) (Xf))),([],Ss 22 (E3 (Tr.ite) (E1 (U.not) e100) (Xt) (v 21)))]) (Pc (v 22) (Ps (Pi [([],Sc 60 [v 0,v 1,v 2,v 3,v 4] 23 3)]) (Pr [v 23,v 24,v 25,Ln (v 1),Ln (v 2),v 3,N 3])) Pk)) (Pi [([],Ss 23 (E2 (B.cons) (E2 (B.cons) e290 (E2 (B.cons) e289 (E2 (B.cons) e288 Xn))) Xn)),([],Ss 24 (E2 (B.cat) (v 8) (v 23))),([],Sk (Le (Ln (v 24)) e219))])))) (Pi [([],Sm 10 [v 6,v 7,v 24])]))) (Pi [])))) e182))))) (Ps (Pz (Pb 2 (Ps (Pi [([],Sm 9 [v 8,v 7,N 0])]) (Pl (Ps (Pz (Ps (Pc (Lt (v 11) e131) Pk (Ps e159 (Px 2))) (Ps (Pb 3 (Ps (Ps (Pi [([],Sk (An e221 (Lt (v 11) e242))),([],Ss 12 (Ix (v 10) (v 11)))]) (Ps (Pi [([],Sc 54 [v 0,v 1,v 2,v 3,Ce 0 (v 12)] 13 7)]) (Pi [([],Ss 20 (E2 (B.cons) (E2 (B.cons) (v 15) (E2 (B.cons) (v 16) e354)) Xn)),([],Ss 21 (E2 (B.cat) (v 9) (v 20))),([],Sk (Le e335 e219))]))) (Pi [([],Sm 12 [v 21,v 10])]))) (Pi [])))) e201))))) (Ps (Pi [([],Sc 62 [v 9,v 0] 10 4)]) (Ps (Pz (Pc e270 (Pz (Pr [v 1,v 2,v 0,Ln (v 1),Ln (v 2),v 3,N 4])) Pk)) (Ps (Pi [([],Sk e73),([],Ss 14 (E3 (Tr.setI) (v 2) e9 (E2 (B.setC 6) (E2 (B.setC 5) (E2 (B.setC 4) e169 (v 10)) (v 11)) (v 12))))]) (Ps (Pi [([],Sk (An e363 (Lt e9 e336))),([],Ss 15 (E3 (Tr.setI) (v 14) e9 (E2 (B.setC 1) (Ix (v 14) e9) (N 3))))]) (Ps (Pi [([],Ss 16 (E2 (B.cons) (v 4) Xn)),([],Ss 17 (E2 (B.cat) (v 3) (v 16))),([],Sk (Le (Ln (v 17)) e121))]) (Pz (Pr [v 1,v 15,v 0,Ln (v 1),Ln (v 15),v 17,N 0])))))))))))
theorem i63:Qi 63 p63:=zac (S:=s63) (no0:=3) (h:=h63) tabOk (by kernel_rfl) Go.Proofs.Tryz.func110 rfl (by kernel_rfl) (by kernel_rfl)
def h64:Hint:=Hz (Hs (Hz (Hc none (Hs e5 (Hs e5 (Hz (Hs (Hr (mt e4 e238)) Hn)))) Hn)) (Hz (Hz (Hs (Hz (Hb (Jn [(2,[],Jp 3 0),(3,[],Jp 4 0),(4,[],Jp 5 0),(7,[],J 8),(8,[],J 9)] [(0,[],Or true 78 (v 1)),(1,[],Or true 65 (v 2)),(2,[],Or true 3 (v 3)),(3,[],Ob true [Li 0,Ow 0 78,Ow 1 65,Ow 2 3]),(4,[],Ob true [Li 4,Li 5,Lz (v 6),Lz (v 7)]),(5,[],Ob true [Leaf.int (.i64) (N 0),Leaf.nil,Leaf.nil,Leaf.nil])] 9 1 6) (Hs (Hz (Hc e31 Hn (Hz (Hc e31 Hn Hn)))) (Hc e7 Hn (Hz (Hc e7 Hn (Hz (Hc e7 Hn (Hz (Hc none (Hz (Hc e7 Hn Hn)) (Hz Hn))))))))))) (Hs e5 (Hz (Hs (Hz (Hb e43 (Hz (Hc none (Hz Hn) (Hz (Hc (some e43) (Hr (mt (mf e301 mo) (mt e301 (mt (mf e13 mo) (mt e13 (mt e61 (mt (mf e38 mo) (mt e38 (mt e275 (mt e26 (mt e328 (mt e78 (mt (mf e1 mo) (mt e1 (mt e50 (mt e25 e238)))))))))))))))) (Hz (Hc (some (Jn [(2,[],Jp 3 0),(4,[],Jp 5 0),(9,[],J 22)] [(1,[],Or true 65 (v 17)),(15,[],Or true 78 (v 19)),(16,[],Or true 3 (v 21)),(3,[],Ob true [Li 18,Ow 15 78,Leaf.sl 1 65 (N 0) (v 20),Ow 16 3]),(5,[],Ob true [Leaf.int (.i64) (N 0),Leaf.nil,Leaf.nil,Leaf.nil])] 17 6 17)) Hn (Hz (Hc (some (Jn [(2,[],Jp 3 0),(4,[],Jp 5 0),(9,[],J 22)] [(1,[],Or true 65 (v 17)),(13,[],Or true 78 (v 19)),(14,[],Or true 3 (v 21)),(3,[],Ob true [Li 18,Ow 13 78,Leaf.sl 1 65 (N 0) (v 20),Ow 14 3]),(5,[],Ob true [Leaf.int (.i64) (N 0),Leaf.nil,Leaf.nil,Leaf.nil])] 17 6 15)) Hn (Hz (Hc (some (Jn [(2,[],Jp 3 0),(4,[],Jp 5 0),(9,[],SV.s e62)] [(1,[],Or true 65 (v 17)),(2,[],Or true 3 (v 3)),(12,[],Or true 78 (v 19)),(3,[],Ob true [Li 18,Ow 12 78,Leaf.sl 1 65 (N 0) (v 20),Ow 2 3]),(5,[],Ob true [Leaf.int (.i64) (N 0),Leaf.nil,Leaf.nil,Leaf.nil])] 17 4 13)) (Hz (Hs (Hz (Hb (Jn [(2,[],Jp 3 0),(3,[],Jp 4 0),(4,[],Jp 5 0),(9,[],SV.s e62)] [(1,[],Or true 65 (v 2)),(2,[],Or true 3 (v 3)),(11,[],Or true 78 (v 19)),(3,[],Ob true [Li 18,Ow 11 78,Ow 1 65,Ow 2 3]),(4,[],Ob true [Li 4,Li 5,Lz (v 6),Lz (v 7)]),(5,[],Ob true [Leaf.int (.i64) (N 0),Leaf.nil,Leaf.nil,Leaf.nil])] 18 2 12) (Hl (Jn [(2,[],Jp 3 0),(3,[],Jp 4 0),(4,[],Jp 5 0),(9,[],SV.s e62),(10,[],Jp 8 0),(155,[],Js 7 67),(156,[],SV.s e227),(157,[],J 22)] [(1,[],Or true 65 (v 2)),(2,[],Or true 3 (v 3)),(11,[],Or true 78 (v 19)),(3,[],Ob true [Li 18,Ow 11 78,Ow 1 65,Ow 2 3]),(4,[],Ob true [Li 4,Li 5,Lz (v 6),Lz (v 7)]),(5,[],Ob true [Leaf.int (.i64) (N 0),Leaf.nil,Leaf.nil,Leaf.nil]),(6,[],Obj.view 1 (v 2) e12 2 84 (v 20)),(7,[],Obj.view 1 (v 2) e12 3 67 (v 21)),(8,[],Ob true [Leaf.int (.i64) (Ce 0 (v 17)),Leaf.int (.i64) (Ce 1 (v 17)),Ow 6 84,Ow 7 67,Leaf.int (.i64) (Ce 4 (v 17)),Leaf.int (.i64) (Ce 5 (v 17)),Lb (Ce 6 (v 17))])] 18 5 12) (Hz (Hs e19 (Hs (Hb (Jn [(2,[],Jp 3 0),(3,[],Jp 4 0),(4,[],Jp 5 0),(9,[],SV.s e62),(10,[],Jp 8 0),(155,[],Js 7 67),(156,[],SV.s e227),(157,[],J 22)] [(1,[],Or true 65 (v 2)),(2,[],Or true 3 (v 3)),(13,[],Or true 78 (v 24)),(3,[],Ob true [Li 23,Ow 13 78,Ow 1 65,Ow 2 3]),(4,[],Ob true [Li 4,Li 5,Lz (v 6),Lz (v 7)]),(5,[],Ob true [Leaf.int (.i64) (N 0),Leaf.nil,Leaf.nil,Leaf.nil]),(6,[],Obj.view 1 (v 2) e12 2 84 (v 25)),(7,[],Obj.view 1 (v 2) e12 3 67 (v 26)),(8,[],Ob true [Leaf.int (.i64) (Ce 0 (v 17)),Leaf.int (.i64) (Ce 1 (v 17)),Ow 6 84,Ow 7 67,Leaf.int (.i64) (Ce 4 (v 17)),Leaf.int (.i64) (Ce 5 (v 17)),Lb (Ce 6 (v 17))])] 23 4 14) (Hz Hn)) Hn)))))) Hn)) (Hz (Hc (some (Jn [(2,[],Jp 3 0),(4,[],Jp 5 0),(9,[],SV.s e62)] [(0,[],Or true 78 (v 17)),(1,[],Or true 65 (v 18)),(2,[],Or true 3 (v 3)),(3,[],Ob true [Li 19,Leaf.sl 0 78 (N 0) e41,Leaf.sl 1 65 (N 0) e49,Ow 2 3]),(5,[],Ob true [Leaf.int (.i64) (N 0),Leaf.nil,Leaf.nil,Leaf.nil])] 17 3 6)) Hn Hn)))))))))))))) (Hz Hn))))))))
def p64:PI:=Pz (Ps (Pz (Pc (Ee (v 4) (N 1)) (Ps (Pz (Pc e253 e57 Pk)) (Ps e130 (Ps e46 (Ps (Pi [([],Sc 50 [Ln (v 9)] 10 1)]) e251)))) Pk)) (Ps (Pi [([],Sc 51 [v 0,v 1,v 2,v 3,v 5] 8 1)]) (Pz (Ps (Pz (Pb 0 (Ps (Ps (Pz (Pc e187 (Ps Pk (Pi [([],Sm 9 [Ee (v 4) (N 2)])])) (Ps (Pz (Pc e132 (Ps Pk (Pi [([],Sm 9 [Ee (v 4) (N 3)])])) (Pz (Pi [([],Sm 9 [Ee (v 4) (N 4)])])))) e159))) (Pc (v 9) e281 (Ps (Pz (Pc e235 (Pz (Pi [([],Sm 10 [N 2])])) (Ps (Pz (Pc e234 (Pz (Pi [([],Sm 10 [N 3])])) (Ps (Pz (Pc e313 (Pz (Pc (Ee (v 8) (N 2)) (Pz e339) e281)) e57)) e149))) e149))) e149))) (Pi [([],Sm 9 [v 10])])))) (Ps (Ps (Pi [([(E2 (B.cmp (BinOp.neq)) (v 8) (v 9),false)],Ss 10 e314),([(v 10,true),(E2 (B.cmp (BinOp.neq)) (v 8) (v 9),false)],Sc 52 [v 6] 11 1),([(E2 (B.cmp (BinOp.neq)) (v 8) (v 9),false)],Ss 12 (E3 (Tr.ite) (v 10) e197 (Xf))),([],Ss 13 (E3 (Tr.ite) (E2 (B.cmp (BinOp.neq)) (v 8) (v 9)) (Xt) (v 12))),([(Ee (v 4) (N 3),true),(v 13,false)],Sc 53 [v 7] 14 1),([(v 13,false)],Ss 15 (E3 (Tr.ite) e132 e269 (Xf))),([],Ss 16 (E3 (Tr.ite) (v 13) (Xt) (v 15)))]) (Pc (v 16) e57 Pk)) (Pz (Ps (Pz (Pb 1 (Ps (Pz (Pc e187 (Ps (Pi [([],Sc 55 [v 0,v 1,v 2,v 3,v 5,v 6] 17 4)]) (Pr [v 18,v 1,E3 (Tr.ext) (v 17) (N 0) e49,v 3,v 19,v 20])) (Pz (Pc e132 (Ps (Pi [([],Sk e97),([],Sk e143),([],Sc 56 [Ce 3 e52,v 6,v 7] 17 1),([],Sk e97),([],Ss 18 (E3 (Tr.setI) (v 2) e12 (E2 (B.setC 3) e52 (v 17))))]) (Pi [([],Sm 17 [v 18,v 0,v 1,Ln (v 18),v 3,N 0])])) (Ps (Pz (Pc (Ee (v 4) (N 4)) (Ps (Pi [([],Sc 58 [v 0,v 1,v 2,v 3,v 5] 17 4)]) (Pi [([],Sm 17 [v 17,v 18,v 19,Ln (v 2),v 3,v 20])])) (Ps (Pz (Pc e235 (Ps (Pi [([],Sc 63 [v 0,v 1,v 2,v 3,v 5] 17 7)]) (Pi [([],Sm 17 [v 18,v 19,E3 (Tr.ext) (v 17) (N 0) (v 20),v 21,v 22,v 23])])) (Ps (Pz (Pc e234 (Ps (Ps (Pi [([],Sk e97),([],Ss 17 e52),([],Sk (E1 (U.isList) (Ce 2 (v 17)))),([],Sk (E1 (U.isList) e366))]) (Ps (Pz (Pb 2 (Ps (Pi [([],Sm 18 [v 0,v 1,Ce 2 (v 17),Ce 3 (v 17),N 0])]) (Pl (Ps (Pz (Ps (Pc (Lt (v 22) (Ln e366)) Pk (Ps (Pi [([],Sm 18 [v 18,v 19])]) (Px 2))) (Ps (Pb 3 (Ps (Ps (Pi [([],Sk (An (Le (N 0) (v 22)) (Lt (v 22) e335))),([],Ss 23 (Ix (v 21) (v 22)))]) (Pi [([],Sc 57 [v 18,v 19,v 2,v 3,Ce 0 (v 23),Ce 1 (v 23),Ce 4 (v 17),Ce 5 (v 17),Ce 6 (v 17),N 0] 24 2)])) (Pi [([],Sm 23 [v 24,v 25,v 20,v 21])]))) (Pi [])))) (Pi [([],Sm 18 [v 23,v 24,v 25,v 26,Ad (v 22) (N 1)])])))))) (Pi [([],Sk e97),([],Ss 20 e194)]))) (Pi [([],Sm 17 [v 20,v 18,v 19,Ln (v 20)])])) (Ps (Pz (Pc e313 (Ps (Pi [([],Sc 60 [v 0,v 1,v 2,v 3,v 5] 17 3)]) (Pi [([],Sm 17 [v 17,v 18,v 19])])) (Ps Pk (Pi [([],Sm 17 [v 1,v 2,v 0])])))) (Pi [([],Sm 17 [v 18,v 19,E3 (Tr.ext) (v 17) (N 0) e41,Ln (v 2)])])))) (Pi [([],Sm 17 [v 17,v 18,v 19,v 20,v 3,N 0])])))) e102))) e102))))) e102))) (Pz (Pr [v 18,v 19,E3 (Tr.ext) (v 17) (N 0) (v 20),v 21,Exp.str [],v 22])))))))))
theorem i64:Qi 64 p64:=zac (S:=s64) (no0:=3) (h:=h64) tabOk (by kernel_rfl) Go.Proofs.Tryz.func77 rfl (by kernel_rfl) (by kernel_rfl)
def h65:Hint:=Hz (Hs e5 (Hz (Hz (Hs (Hz (Hb (Jn [(4,[],Jp 1 0),(7,[],Jp 2 0),(8,[],Js 20 3)] [(0,[],Or false 71 (v 1)),(1,[],Ob true [Leaf.int (.i64) (N 0),Leaf.nil,Leaf.nil,Leaf.nil]),(17,[],Or true 78 (v 5)),(18,[],Or true 65 (v 6)),(19,[],Or true 3 (v 7)),(2,[],Ob true [Li 4,Ow 17 78,Ow 18 65,Ow 19 3]),(20,[],Or true 3 (v 8))] 4 5 21) (Hl (Jn [(4,[],Jp 1 0),(7,[],Jp 2 0),(8,[],Js 20 3),(25,[],Js 0 71),(26,[],SV.s e30),(27,[],J 9)] [(0,[],Or false 71 (v 1)),(1,[],Ob true [Leaf.int (.i64) (N 0),Leaf.nil,Leaf.nil,Leaf.nil]),(17,[],Or true 78 (v 5)),(18,[],Or true 65 (v 6)),(19,[],Or true 3 (v 7)),(2,[],Ob true [Li 4,Ow 17 78,Ow 18 65,Ow 19 3]),(20,[],Or true 3 (v 8))] 4 6 21) (Hz (Hs e19 (Hs (Hb (Jn [(4,[],Jp 1 0),(7,[],Jp 2 0),(8,[],Js 33 3),(25,[],Js 0 71),(26,[],SV.s e30),(27,[],J 9)] [(0,[],Or false 71 (v 1)),(1,[],Ob true [Leaf.int (.i64) (N 0),Leaf.nil,Leaf.nil,Leaf.nil]),(29,[],Or true 78 (v 11)),(30,[],Or true 65 (v 12)),(31,[],Or true 3 (v 13)),(2,[],Ob true [Li 10,Ow 29 78,Ow 30 65,Ow 31 3]),(33,[],Or true 3 (v 14))] 10 5 34) (Hz (Hs e47 (Hs (Hz (Hc (some (Jn [(4,[],Jp 1 0),(7,[],Jp 2 0),(8,[],Js 20 3),(13,[],J 20),(25,[],Js 0 71),(26,[],SV.s e30),(27,[],J 9)] [(0,[],Or false 71 (v 1)),(1,[],Ob true [Leaf.int (.i64) (N 0),Leaf.nil,Leaf.nil,Leaf.nil]),(29,[],Or true 78 (v 23)),(30,[],Or true 65 (v 24)),(31,[],Or true 3 (v 25)),(2,[],Ob true [Li 22,Ow 29 78,Ow 30 65,Ow 31 3]),(20,[],Or true 3 (v 8))] 22 4 32)) Hn Hn)) Hn)))) Hn)))))) (Hz Hn)))))
def p65:PI:=Pz (Ps (Ps (Pi [([],Sc 40 [v 0,N 1,N 1000] 2 1),([],Ss 3 e136)]) e196) (Pz (Pz (Ps (Pz (Pb 0 (Ps (Pi [([],Sm 4 [v 0,Xn,Xn,Xn,Xn,N 0])]) (Pl (Ps (Pz (Ps (Pc e340 Pk (Ps (Pi [([],Sm 4 [v 4,v 5,v 6,v 7,v 8])]) (Px 0))) (Ps (Pb 1 (Ps (Ps (Pi [([],Sk (An e157 e340)),([],Ss 10 (Ix (v 1) (v 9)))]) (Ps (Pi [([],Sc 41 [v 4,v 5,v 6,v 7] 11 4),([],Sc 64 [v 11,v 12,v 13,v 14,Ce 0 (v 10),Ce 1 (v 10),Ce 2 (v 10),Ce 3 (v 10)] 15 6)]) (Ps (Ps (Pi [([],Ss 21 (E3 (Tr.ite) (Ee (v 20) (N 0)) (Xt) (Ee (v 20) (N 3))))]) (Pc (v 21) (Pz (Pi [([],Sm 22 [v 15,v 16,v 17,v 18])])) (Ps Pk (Pi [([],Sm 22 [v 4,v 5,v 6,v 7])])))) (Pi [([],Ss 26 (E2 (B.cons) (v 20) Xn)),([],Ss 27 (E2 (B.cat) (v 8) (v 26))),([],Sk (Le (Ln (v 27)) e121))])))) (Pi [([],Sm 10 [v 22,v 23,v 24,v 25,v 27])]))) (Pi [])))) (Pi [([],Sm 4 [v 10,v 11,v 12,v 13,v 14,Ad (v 9) (N 1)])])))))) (Ps (Pi [([],Sc 41 [v 4,v 5,v 6,v 7] 9 4)]) (Pr [v 9,v 10,v 11,v 12,v 8,Xt]))))))
theorem i65:Qi 65 p65:=zac (S:=s65) (no0:=1) (h:=h65) tabOk (by kernel_rfl) Go.Proofs.Tryz.func29 rfl (by kernel_rfl) (by kernel_rfl)
def h66:Hint:=Hz (Hs e5 (Hs (Hz (Hb (Jn [] [(0,[],Or false 3 (v 0)),(1,[],Or false 3 (v 1))] 2 0 2) (Hl (Jn [(0,[],Js 0 3),(1,[],Js 1 3),(12,[],SV.s e20),(13,[],J 2)] [(0,[],Or false 3 (v 0)),(1,[],Or false 3 (v 1))] 2 1 2) (Hz (Hs e19 (Hs (Hb (Jn [(0,[],Js 0 3),(1,[],Js 1 3),(12,[],SV.s e20),(13,[],J 2)] [(0,[],Or false 3 (v 0)),(1,[],Or false 3 (v 1))] 3 0 2) (Hz (Hs (Hr mo) e70))) Hn)))))) (Hz Hn)))
def p66:PI:=Pz (Ps (Pz (Pc (E2 (B.cmp (BinOp.neq)) e36 e41) e42 Pk)) (Ps (Pz (Pb 0 (Ps e353 (Pl (Ps (Pz (Ps e241 (Ps (Pb 1 (Ps (Pz (Ps (Pi [([],Sk e109),([],Sk (An (Le (N 0) (v 2)) (Lt (v 2) e41)))]) (Pc (E2 (B.cmp (BinOp.neq)) e232 (Ix (v 1) (v 2))) e42 Pk))) (Pi [([],Sm 3 [])]))) (Pi [])))) e263))))) e177))
theorem i66:Qi 66 p66:=zac (S:=s66) (no0:=2) (h:=h66) tabOk (by kernel_rfl) Go.Proofs.Tryz.func22 rfl (by kernel_rfl) (by kernel_rfl)
def h67:Hint:=Hz (Hz Hn)
def p67:PI:=Pz (Ps (Pi [([],Sc 40 [v 0,N 0,N 1048575] 3 1),([(v 3,true)],Sc 40 [v 1,N 0,N 16777215] 4 1),([],Ss 5 e300)]) (Pr [v 5]))
theorem i67:Qi 67 p67:=zac (S:=s67) (no0:=0) (h:=h67) tabOk (by kernel_rfl) Go.Proofs.Tryz.func79 rfl (by kernel_rfl) (by kernel_rfl)
def h68:Hint:=Hz e82
def p68:PI:=Pz (Ps (Ps (Pi [([],Sc 67 [v 0,v 1,v 2] 6 1),([(E1 (U.not) (v 6),false)],Sc 67 [v 3,v 4,v 5] 7 1),([],Ss 8 (E3 (Tr.ite) e286 (Xt) e285))]) (Pc (v 8) (Pz (Pr [N 0,Xf])) Pk)) (Ps (Pi [([],Sc 61 [v 0,v 1,v 2,v 3,v 4,v 5] 9 1)]) (Pr [v 9,Xt])))
theorem i68:Qi 68 p68:=zac (S:=s68) (no0:=0) (h:=h68) tabOk (by kernel_rfl) Go.Proofs.Tryz.func30 rfl (by kernel_rfl) (by kernel_rfl)
def h69:Hint:=Hz (Hz (Hs (Hz (Hc (some (Jn [(0,[],Jp 1 0),(2,[],Jp 2 0),(3,[],SV.s (Sq (Leaf.sl 3 71 (N 0) (v 6))))] [(0,[],Or false 5 (v 0)),(1,[],Ob true [Ow 0 5,Li 3,Lu 4]),(2,[],Ob true [Leaf.int (.i64) (N 0),Leaf.nil,Leaf.nil,Leaf.nil]),(3,[],Or true 71 (v 5))] 6 1 4)) Hn Hn)) (Hz (Hs (Hz (Hb e39 (Hz (Hc (some e39) Hn (Hz (Hc (some (Jn [(2,[],Jp 2 0),(4,[],Jp 8 0)] [(0,[],Or false 5 (v 0)),(1,[],Ob true [Ow 0 5,Li 19,Lu 20]),(2,[],Ob true [Leaf.int (.i64) (N 0),Leaf.nil,Leaf.nil,Leaf.nil]),(4,[],Or true 78 (v 21)),(5,[],Or true 65 (v 22)),(11,[],Or true 3 (v 23)),(8,[],Ob true [Li 10,Ow 4 78,Ow 5 65,Ow 11 3])] 19 5 12)) Hn (Hz (Hc (some (Jn [(2,[],Jp 2 0),(4,[],Jp 8 0)] [(0,[],Or false 5 (v 0)),(1,[],Ob true [Ow 0 5,Li 19,Lu 20]),(2,[],Ob true [Leaf.int (.i64) (N 0),Leaf.nil,Leaf.nil,Leaf.nil]),(4,[],Or true 78 (v 21)),(5,[],Or true 65 (v 22)),(6,[],Or true 3 (v 13)),(8,[],Ob true [Li 10,Ow 4 78,Ow 5 65,Ow 6 3])] 19 4 9)) (Hz (Hc (some (Jn [(2,[],Jp 2 0),(4,[],Jp 8 0)] [(0,[],Or false 5 (v 0)),(1,[],Ob true [Ow 0 5,Li 19,Lu 20]),(2,[],Ob true [Leaf.int (.i64) (N 0),Leaf.nil,Leaf.nil,Leaf.nil]),(4,[],Or true 78 (v 21)),(5,[],Or true 65 (v 12)),(6,[],Or true 3 (v 13)),(8,[],Ob true [Li 10,Ow 4 78,Ow 5 65,Ow 6 3])] 19 3 9)) (Hr (mt e50 (mf e25 e258))) Hn)) (Hz (Hc e35 (Hz (Hc e35 (Hr (mt e81 (mf e163 e120))) Hn)) Hn)))))))))) (Hz Hn)))))
def p69:PI:=Pz (Ps (Pi [([],Sc 7 [v 0,v 1,v 2] 3 3)]) (Ps (Pz (Pc (E2 (B.cmp (BinOp.gtr)) e266 (N 120)) (Ps (Pi [([],Sk (An e122 (An (Le (N 0) (N 120)) (Le (N 120) e266))))]) (Pi [([],Sm 6 [N 120])])) (Ps Pk (Pi [([],Sm 6 [Ln (v 5)])])))) (Ps (Pi [([],Sc 1 [v 0,v 3,v 4,N 3] 7 3),([],Sc 65 [Ad (N 1) (v 9),E3 (Tr.ext) (v 5) (N 0) (v 6)] 10 6)]) (Ps (Ps (Pi [([],Sc 1 [v 0,v 7,v 8,N 40] 16 3)]) (Pb 0 (Ps (Pz (Pc (Ee (v 18) (N 0)) (Ps (Pi [([],Ss 19 e147),([],Sc 3 [v 0,v 16,v 17,v 19] 20 3)]) (Pi [([],Sm 19 [v 20,v 21,v 22,v 11,v 12,v 13])])) (Ps (Pz (Pc (Ee (v 18) (N 1)) (Ps (Pi [([],Ss 19 (E2 (B.cons) (N 1) Xn)),([],Ss 20 (E2 (B.cat) (v 13) (v 19))),([],Sk (Le (Ln (v 20)) e121))]) (Pi [([],Sm 19 [v 16,v 17,v 11,v 12,v 20])])) (Ps (Pz (Pc (Ee (v 18) (N 2)) (Ps (Pz (Pc (E2 (B.cmp (BinOp.gtr)) e338 (N 0)) (Ps (Pi [([],Sc 1 [v 0,v 16,v 17,N 4] 19 3),([],Sk (An e122 (Lt (N 0) e338))),([],Ss 22 (E3 (Tr.setI) (v 11) (N 0) (E2 (B.setC 5) (Ix (v 11) (N 0)) (v 21))))]) e247) (Ps Pk (Pi [([],Sm 19 [v 16,v 17,v 11])])))) (Pi [([],Sm 19 [v 19,v 20,v 21,v 12])])) (Ps (Pz (Pc (Ee (v 18) (N 3)) (Ps (Pz (Pc (E2 (B.cmp (BinOp.gtr)) e337 (N 0)) (Ps (Pi [([],Sc 1 [v 0,v 16,v 17,N 5] 19 3),([],Sk (An e122 (Lt (N 0) e337))),([],Ss 22 (E3 (Tr.setI) (v 12) (N 0) (E2 (B.setC 1) (Ix (v 12) (N 0)) (Ad (N 1) (v 21)))))]) e247) e208)) (Pi [([],Sm 19 [v 19,v 20,v 21])])) e208)) (Pi [([],Sm 19 [v 19,v 20,v 11,v 21])])))) (Pi [([],Sm 19 [v 19,v 20,v 21,v 22,v 13])])))) (Pi [([],Sm 19 [v 19,v 20,v 10,v 21,v 22,v 23])])))) (Pi [([],Sm 19 [v 19,v 20,v 21,v 22,v 23,v 24])])))) (Pz (Pr [v 19,v 20,v 21,v 22,v 23,v 24]))))))
theorem i69:Qi 69 p69:=zac (S:=s69) (no0:=2) (h:=h69) tabOk (by kernel_rfl) Go.Proofs.Tryz.func81 rfl (by kernel_rfl) (by kernel_rfl)
def h70:Hint:=Hz (Hz (Hz (Hs (Hr (mt mo (mt (mf (mf mo (mt (mf (mf (mf (mf (mf (mf mo (mt e259 mo)) mo) mo) mo) mo) mo) (mf e155 (mf e333 (mf e10 e10))))) mo) (mf (mf mo (mf (mf e155 mo) (mf e155 (mf e333 (mf mo e10))))) (mf mo (mf (mf e155 mo) (mf e155 (mf e333 (mf e10 (mf (mf e150 mo) (mf e150 (mf mo (mf e259 (mf mo (mt e51 e303))))))))))))))) (Hs (Hz (Hc (some (Jn [(2,[],Jp 1 0),(3,[],Jp 2 0),(5,[],Jp 7 0),(6,[],Jp 8 0)] [(0,[],Or false 5 (v 0)),(1,[],Ob true [Leaf.int (.i64) (N 0),Leaf.nil,Leaf.nil,Leaf.nil]),(2,[],Ob true [Leaf.int (.i64) (N 0),Leaf.int (.i64) (N 0),Lz (Exp.str []),Lz (Exp.str [])]),(4,[],Or true 78 (v 4)),(5,[],Or true 65 (v 5)),(6,[],Or true 3 (v 6)),(7,[],Ob true [Li 3,Ow 4 78,Ow 5 65,Ow 6 3]),(8,[],Ob true [Leaf.int (.i64) (Ad (N 1) (v 9)),Li 19,Lz (v 15),Lz (v 18)])] 19 1 9)) Hn Hn)) (Hs (Hr (mt e14 e303)) Hn)))))
def p70:PI:=Pz (Pz (Ps (Pi [([],Sc 69 [v 0,N 0,N 0] 1 6)]) (Ps (Pi [([],Sc 1 [v 0,v 1,v 2,N 7] 7 3),([],Sc 1 [v 0,v 7,v 8,Ad e266 (N 1)] 10 3),([],Sc 5 [v 0,v 10,v 11] 13 3),([],Sc 6 [v 0,v 13,v 14] 16 3)]) (Ps (Pz (Pc (Ee (Ad (N 1) (v 9)) (N 1)) (Pz e214) (Ps Pk (Pi [([],Sm 19 [Ad (N 1) (v 12)])])))) (Pz (Pr [v 3,v 4,v 5,v 6,Ad (N 1) (v 9),v 19,v 15,v 18]))))))
theorem i70:Qi 70 p70:=zac (S:=s70) (no0:=1) (h:=h70) tabOk (by kernel_rfl) Go.Proofs.Tryz.func31 rfl (by kernel_rfl) (by kernel_rfl)
def h71:Hint:=Hz (Hz Hn)
def p71:PI:=Pz (Ps (Pi [([],Sc 20 [v 3,v 7] 8 2)]) (Pr [v 8,v 9]))
theorem i71:Qi 71 p71:=zac (S:=s71) (no0:=3) (h:=h71) tabOk (by kernel_rfl) Go.Proofs.Tryz.func116 rfl (by kernel_rfl) (by kernel_rfl)
def h72:Hint:=Hz (Hz Hn)
def p72:PI:=Pz (Ps (Pi [([],Ss 1 (E3 (Tr.ite) (Ee (v 0) (N 2)) (Xt) (Ee (v 0) (N 3))))]) e361)
theorem i72:Qi 72 p72:=zac (S:=s72) (no0:=0) (h:=h72) tabOk (by kernel_rfl) Go.Proofs.Tryz.func117 rfl (by kernel_rfl) (by kernel_rfl)
def h73:Hint:=Hz (Hz (Hs e5 (Hz (Hs (Hz (Hb (Jn [(2,[],Jp 2 0)] [(0,[],Or false 84 (v 2)),(1,[],Or false 67 (v 3)),(2,[],Ob true [Li 0,Li 1,Ow 0 84,Ow 1 67,Li 4,Li 5,Lb (v 6)])] 17 0 5) (Hl (Jn [(2,[],Jp 2 0),(6,[],SV.s (Sq (Leaf.mp 3))),(58,[],Js 0 84),(59,[],SV.s e33),(60,[],J 18)] [(0,[],Or false 84 (v 2)),(1,[],Or false 67 (v 3)),(2,[],Ob true [Li 0,Li 1,Ow 0 84,Ow 1 67,Li 4,Li 5,Lb (v 6)]),(3,[],Obj.map (CK.str) (CK.bool) (v 17))] 17 2 5) (Hz (Hs e19 (Hs (Hb (Jn [(2,[],Jp 2 0),(6,[],SV.s (Sq (Leaf.mp 3))),(58,[],Js 0 84),(59,[],SV.s e33),(60,[],J 18)] [(0,[],Or false 84 (v 2)),(1,[],Or false 67 (v 3)),(2,[],Ob true [Li 0,Li 1,Ow 0 84,Ow 1 67,Li 4,Li 5,Lb (v 6)]),(3,[],Obj.map (CK.str) (CK.bool) (v 19))] 19 1 6) e324) Hn)))))) (Hs (Hz (Hb (Jn [] [(0,[],Or false 84 (v 2)),(1,[],Or false 67 (v 3))] 17 0 6) (Hl (Jn [(2,[],Jp 2 0),(96,[],Js 1 67),(97,[],SV.s e59),(98,[],J 17)] [(0,[],Or false 84 (v 2)),(1,[],Or false 67 (v 3)),(2,[],Ob true [Li 0,Li 1,Ow 0 84,Ow 1 67,Li 4,Li 5,Lb (v 6)])] 17 1 6) (Hz (Hs e19 (Hs (Hb (Jn [(2,[],Jp 2 0),(96,[],Js 1 67),(97,[],SV.s e59),(98,[],J 17)] [(0,[],Or false 84 (v 2)),(1,[],Or false 67 (v 3)),(2,[],Ob true [Li 0,Li 1,Ow 0 84,Ow 1 67,Li 4,Li 5,Lb (v 6)])] 18 0 7) (Hz e171)) Hn)))))) (Hz Hn))))))
def p73:PI:=Pz (Ps (Pi [([],Ss 8 (E3 (Tr.ite) (Ee (v 1) (N 3)) (Xt) (Ee (v 1) (N 4))))]) (Ps (Ps (Pi [([(E2 (B.cmp (BinOp.neq)) (v 0) (v 7),false)],Sc 9 [v 1,N 1,N 5] 9 1),([],Ss 10 (E3 (Tr.ite) (E2 (B.cmp (BinOp.neq)) (v 0) (v 7)) (Xt) e283)),([],Ss 11 (E3 (Tr.ite) (v 10) (Xt) (E2 (B.cmp (BinOp.gtr)) e49 (N 40)))),([(v 11,false)],Sc 34 [v 4,v 5,v 6] 12 1),([],Ss 13 e211),([],Ss 14 (E3 (Tr.ite) (v 13) (Xt) (v 6))),([(v 14,false)],Ss 15 (E3 (Tr.ite) e284 (E1 (U.not) (An (Ee (v 4) (N 0)) (An (Ee (v 5) (N 0)) (E2 (B.bcmp (BinOp.eql)) (v 6) (Xf))))) (Xf))),([],Ss 16 (E3 (Tr.ite) (v 14) (Xt) (v 15)))]) (Pc (v 16) e42 Pk)) (Pz (Ps (Pz (Pb 0 (Ps (Pi [([],Sm 17 [Xn,N 0])]) (Pl (Ps (Pz (Ps (Pc (Lt (v 18) e49) Pk (Ps e370 (Px 0))) (Ps (Pb 1 (Ps (Ps (Pi [([],Sk (An e299 (Lt (v 18) e49))),([],Ss 19 (Ix (v 2) (v 18)))]) (Ps (Ps (Pi [([],Sc 16 [Ce 0 (v 19)] 20 1),([],Ss 21 (E3 (Tr.ite) (E1 (U.not) (v 20)) (Xt) (E3 (Tr.mget) (v 17) (Ce 0 (v 19)) (Xf)))),([(v 21,false)],Sc 17 [Ce 1 (v 19)] 22 1),([],Ss 23 (E3 (Tr.ite) (v 21) (Xt) (E1 (U.not) (v 22)))),([(v 23,false)],Sc 34 [Ce 2 (v 19),Ce 3 (v 19),Ce 4 (v 19)] 24 1),([],Ss 25 (E3 (Tr.ite) (v 23) (Xt) (E1 (U.not) (v 24)))),([],Ss 26 (E3 (Tr.ite) (v 25) (Xt) (Ce 4 (v 19))))]) (Pc (v 26) e42 Pk)) (Pi [([],Ss 27 (E3 (Tr.mset) (v 17) (Ce 0 (v 19)) (Xt)))]))) (Pi [([],Sm 19 [v 27])]))) (Pi [])))) (Pi [([],Sm 17 [v 19,Ad (v 18) (N 1)])])))))) (Ps (Pz (Pb 2 (Ps (Pi [([],Sm 17 [N 0])]) (Pl (Ps (Pz (Ps (Pc (Lt (v 17) e205) Pk (Ps e370 (Px 2))) (Ps (Pb 3 (Ps (Ps (Pi [([],Sk (An (Le (N 0) (v 17)) (Lt (v 17) e205))),([],Ss 18 (Ix (v 3) (v 17)))]) (Ps (Pi [([],Sc 16 [Ce 0 (v 18)] 19 1),([(E1 (U.not) (v 19),false)],Sc 17 [Ce 1 (v 18)] 20 1),([],Ss 21 (E3 (Tr.ite) (E1 (U.not) (v 19)) (Xt) (E1 (U.not) (v 20)))),([(E2 (B.cmp (BinOp.gtr)) (v 17) (N 0),true),(v 21,false)],Sk (An (Le (N 0) e293) (Lt e293 e205))),([(v 21,false)],Ss 22 (E3 (Tr.ite) (E2 (B.cmp (BinOp.gtr)) (v 17) (N 0)) (E2 (B.scmp (BinOp.geq)) (Ce 0 (Ix (v 3) e293)) (Ce 0 (v 18))) (Xf))),([],Ss 23 (E3 (Tr.ite) (v 21) (Xt) (v 22)))]) (Pc (v 23) e42 Pk))) e369)) (Pi [])))) (Pi [([],Sm 17 [Ad (v 17) (N 1)])])))))) e177)))))
theorem i73:Qi 73 p73:=zac (S:=s73) (no0:=2) (h:=h73) tabOk (by kernel_rfl) Go.Proofs.Tryz.func118 rfl (by kernel_rfl) (by kernel_rfl)
def h74:Hint:=Hz (Hs e5 (Hz (Hs (Hz (Hb (Jn [(1,[],Jp 3 0),(3,[],SV.s e90)] [(0,[],Or false 78 (v 1)),(1,[],Or false 65 (v 2)),(2,[],Or false 3 (v 3)),(3,[],Ob true [Li 0,Ow 0 78,Ow 1 65,Ow 2 3]),(4,[],Obj.map (CK.int (.i64)) (CK.bool) (v 7))] 7 1 5) (Hl (Jn [(1,[],Jp 3 0),(3,[],SV.s e90),(35,[],Js 2 3),(36,[],SV.s e59),(37,[],J 8)] [(0,[],Or false 78 (v 1)),(1,[],Or false 65 (v 2)),(2,[],Or false 3 (v 3)),(3,[],Ob true [Li 0,Ow 0 78,Ow 1 65,Ow 2 3]),(4,[],Obj.map (CK.int (.i64)) (CK.bool) (v 7))] 7 2 5) (Hz (Hs e19 (Hs (Hb (Jn [(1,[],Jp 3 0),(3,[],SV.s e90),(35,[],Js 2 3),(36,[],SV.s e59),(37,[],J 8)] [(0,[],Or false 78 (v 1)),(1,[],Or false 65 (v 2)),(2,[],Or false 3 (v 3)),(3,[],Ob true [Li 0,Ow 0 78,Ow 1 65,Ow 2 3]),(4,[],Obj.map (CK.int (.i64)) (CK.bool) (v 9))] 9 1 5) e324) Hn)))))) (Hs (Hz (Hb (Jn [(1,[],Jp 3 0),(3,[],SV.s e90)] [(0,[],Or false 78 (v 1)),(1,[],Or false 65 (v 2)),(2,[],Or false 3 (v 3)),(3,[],Ob true [Li 0,Ow 0 78,Ow 1 65,Ow 2 3]),(4,[],Obj.map (CK.int (.i64)) (CK.bool) (v 7))] 8 0 9) (Hl (Jn [(1,[],Jp 3 0),(3,[],SV.s e90),(56,[],Js 0 78),(57,[],SV.s e30),(58,[],J 8)] [(0,[],Or false 78 (v 1)),(1,[],Or false 65 (v 2)),(2,[],Or false 3 (v 3)),(3,[],Ob true [Li 0,Ow 0 78,Ow 1 65,Ow 2 3]),(4,[],Obj.map (CK.int (.i64)) (CK.bool) (v 7))] 8 1 9) (Hz (Hs e19 (Hs (Hb (Jn [(1,[],Jp 3 0),(3,[],SV.s e90),(56,[],Js 0 78),(57,[],SV.s e30),(58,[],J 8)] [(0,[],Or false 78 (v 1)),(1,[],Or false 65 (v 2)),(2,[],Or false 3 (v 3)),(3,[],Ob true [Li 0,Ow 0 78,Ow 1 65,Ow 2 3]),(4,[],Obj.map (CK.int (.i64)) (CK.bool) (v 7))] 9 0 13) (Hz (Hs (Hs (Hr (mt mo (mt mo (mt mo (mt mo (mt mo (mt mo (mt mo (mt mo (mt e262 (mf (mf mo e134) (mf mo (mf mo (mt e6 (mt e50 (mt e25 (mt mo (mt mo (mt mo (mt mo (mt mo (mt mo (mt mo (mt mo (mt mo (mt mo (mt mo (mt mo (mt mo (mt mo (mt mo (mt mo (mt mo (mt mo (mt e6 (mt e50 (mt e25 (mt mo (mt mo (mt mo (mt mo (mt mo (mt e327 (mt e81 (mt e163 (mt mo (mt mo (mt mo (mt mo (mt mo (mt mo (mt e81 (mt e163 e54))))))))))))))))))))))))))))))))))))))))))))))))))))) e70) (Hs (Hz e19) (Hz (Hz e5)))))) Hn)))))) (Hs (Hz (Hb (Jn [] [(0,[],Or false 78 (v 1)),(1,[],Or false 65 (v 2)),(2,[],Or false 3 (v 3))] 8 0 13) (Hl (Jn [(1,[],Jp 3 0),(3,[],SV.s e90),(147,[],Js 1 65),(148,[],SV.s e33),(149,[],J 8)] [(0,[],Or false 78 (v 1)),(1,[],Or false 65 (v 2)),(2,[],Or false 3 (v 3)),(3,[],Ob true [Li 0,Ow 0 78,Ow 1 65,Ow 2 3]),(4,[],Obj.map (CK.int (.i64)) (CK.bool) (v 7))] 8 1 13) (Hz (Hs e19 (Hs (Hb (Jn [(1,[],Jp 3 0),(3,[],SV.s e90),(147,[],Js 1 65),(148,[],SV.s e33),(149,[],J 8)] [(0,[],Or false 78 (v 1)),(1,[],Or false 65 (v 2)),(2,[],Or false 3 (v 3)),(3,[],Ob true [Li 0,Ow 0 78,Ow 1 65,Ow 2 3]),(4,[],Obj.map (CK.int (.i64)) (CK.bool) (v 7))] 9 0 17) (Hz (Hs e5 (Hz (Hb (Jn [(1,[],Jp 3 0),(3,[],SV.s e90),(147,[],Js 1 65),(148,[],SV.s e33),(149,[],J 8)] [(0,[],Or false 78 (v 1)),(1,[],Or false 65 (v 2)),(2,[],Or false 3 (v 3)),(3,[],Ob true [Li 0,Ow 0 78,Ow 1 65,Ow 2 3]),(4,[],Obj.map (CK.int (.i64)) (CK.bool) (v 7))] 13 0 17) (Hl (Jn [(1,[],Jp 3 0),(3,[],SV.s e90),(12,[],Jp 15 0),(147,[],Js 1 65),(148,[],SV.s e33),(149,[],J 8),(175,[],Js 14 67),(176,[],SV.s e278),(177,[],J 15)] [(0,[],Or false 78 (v 1)),(1,[],Or false 65 (v 2)),(2,[],Or false 3 (v 3)),(3,[],Ob true [Li 0,Ow 0 78,Ow 1 65,Ow 2 3]),(4,[],Obj.map (CK.int (.i64)) (CK.bool) (v 7)),(13,[],Or false 84 (v 13)),(14,[],Or false 67 (v 14)),(15,[],Ob true [Leaf.int (.i64) e192,Leaf.int (.i64) e255,Ow 13 84,Ow 14 67,Leaf.int (.i64) e254,Leaf.int (.i64) e189,Lb (Ce 6 (v 9))])] 13 3 17) (Hz (Hs e19 (Hs (Hb (Jn [(1,[],Jp 3 0),(3,[],SV.s e90),(12,[],Jp 15 0),(147,[],Js 1 65),(148,[],SV.s e33),(149,[],J 8),(175,[],Js 14 67),(176,[],SV.s e278),(177,[],J 15)] [(0,[],Or false 78 (v 1)),(1,[],Or false 65 (v 2)),(2,[],Or false 3 (v 3)),(3,[],Ob true [Li 0,Ow 0 78,Ow 1 65,Ow 2 3]),(4,[],Obj.map (CK.int (.i64)) (CK.bool) (v 7)),(13,[],Or false 84 (v 13)),(14,[],Or false 67 (v 14)),(15,[],Ob true [Leaf.int (.i64) e192,Leaf.int (.i64) e255,Ow 13 84,Ow 14 67,Leaf.int (.i64) e254,Leaf.int (.i64) e189,Lb (Ce 6 (v 9))])] 16 0 18) (Hz (Hz (Hs (Hr (mt mo (mt mo (mt mo (mt mo (mt mo (mt mo (mt mo (mt (mf e134 mo) (mf e134 (mf mo (mt e6 e107)))))))))))) e70)))) Hn))))))))) Hn)))))) (Hz Hn))))))
def p74:PI:=Pz (Ps (Ps (Pi [([],Sc 9 [v 0,N 1,N 1000] 4 1),([],Ss 5 e138),([],Ss 6 e165)]) (Pc (v 6) e42 Pk)) (Pz (Ps (Pz (Pb 0 (Ps (Pi [([],Sm 7 [Xn,N 0])]) (Pl (Ps (Pz (Ps (Pc e118 Pk (Ps e161 (Px 0))) (Ps (Pb 1 (Ps (Ps e302 (Ps (Ps (Pi [([],Sc 9 [Ix (v 3) (v 8),N 1,Ln (v 2)] 9 1),([],Ss 10 (E3 (Tr.ite) e283 (Xt) (E3 (Tr.mget) (v 7) e312 (Xf))))]) (Pc (v 10) e42 Pk)) (Pi [([],Ss 11 (E3 (Tr.mset) (v 7) e312 (Xt)))]))) (Pi [([],Sm 9 [v 11])]))) (Pi [])))) e239))))) (Ps (Pz (Pb 2 (Ps e160 (Pl (Ps (Pz (Ps (Pc e342 Pk (Ps e96 (Px 2))) (Ps (Pb 3 (Ps (Ps (Pi [([],Sk (An e99 e342)),([],Ss 9 (Ix (v 1) (v 8)))]) (Ps (Ps (Pi [([],Sc 16 [Ce 0 (v 9)] 10 1),([(E2 (B.cmp (BinOp.gtr)) (v 8) (N 0),true),(E1 (U.not) (v 10),false)],Sk (An (Le (N 0) e305) (Lt e305 e41))),([(E1 (U.not) (v 10),false)],Ss 11 (E3 (Tr.ite) (E2 (B.cmp (BinOp.gtr)) (v 8) (N 0)) (E2 (B.scmp (BinOp.geq)) (Ce 0 (Ix (v 1) e305)) e192) (Xf))),([],Ss 12 (E3 (Tr.ite) e158 (Xt) (v 11))),([(v 12,false)],Sc 17 [Ce 1 (v 9)] 13 1),([],Ss 14 (E3 (Tr.ite) (v 12) (Xt) e270)),([(v 14,false)],Sc 34 [Ce 2 (v 9),Ce 3 (v 9),Ce 4 (v 9)] 15 1),([],Ss 16 (E3 (Tr.ite) (v 14) (Xt) e268)),([],Ss 17 (E3 (Tr.ite) (v 16) (Xt) (E2 (B.cmp (BinOp.gtr)) e316 (v 0)))),([],Ss 18 (E3 (Tr.ite) (v 17) (Xt) (E2 (B.bcmp (BinOp.neq)) e254 (E2 (B.cmp (BinOp.neq)) e189 (N 0))))),([(v 18,false)],Sc 9 [Ce 5 (v 9),N 0,Ln (v 2)] 19 1),([],Ss 20 (E3 (Tr.ite) (v 18) (Xt) (E1 (U.not) (v 19))))]) (Pc (v 20) e42 Pk)) (Ps (Pz (Pc (Ee e189 (N 0)) (Ps e146 (Px 3)) Pk)) (Ps (Pi [([],Sk (An (Le (N 0) e322) (Lt e322 e49))),([],Ss 21 (Ix (v 2) e322)),([],Sk (E1 (U.isList) (Ce 2 (v 21)))),([],Sk (E1 (U.isList) (Ce 3 (v 21))))]) (Ps (Pi [([],Sc 71 [Ce 0 (v 21),Ce 1 (v 21),Ce 2 (v 21),Ce 3 (v 21),Ce 4 (v 21),Ce 5 (v 21),Ce 6 (v 21),Ce 0 (v 9)] 22 2)]) (Ps (Pi [([],Sc 72 [Ce 1 (v 21)] 24 1),([],Ss 25 (E3 (Tr.ite) (E1 (U.not) (v 24)) (Xt) (E1 (U.not) (v 23))))]) (Pc (v 25) e42 Pk))))))) e146)) (Pi [])))) e114))))) (Ps (Pz (Pb 4 (Ps e160 (Pl (Ps (Pz (Ps (Pc e341 Pk (Ps e96 (Px 4))) (Ps (Pb 5 (Ps (Ps e75 (Ps (Ps (Pi [([],Sc 73 [Ce 0 (v 9),Ce 1 (v 9),Ce 2 (v 9),Ce 3 (v 9),Ce 4 (v 9),Ce 5 (v 9),Ce 6 (v 9),Ad (v 8) (N 1)] 10 1),([(E1 (U.not) (v 10),false)],Ss 11 e152),([],Ss 12 (E3 (Tr.ite) e158 (Xt) (E2 (B.bcmp (BinOp.neq)) (E3 (Tr.mget) (v 7) (Ad (v 8) (N 1)) (Xf)) (v 11))))]) (Pc (v 12) e42 Pk)) (Pz (Pb 6 (Ps (Pi [([],Sm 13 [Ce 2 (v 9),Ce 3 (v 9),N 0])]) (Pl (Ps (Pz (Ps (Pc (Lt (v 15) (Ln e216)) Pk (Ps e371 (Px 6))) (Ps (Pb 7 (Ps (Ps (Pi [([],Sk (An (Le (N 0) (v 15)) (Lt (v 15) e336))),([],Ss 16 (Ix (v 14) (v 15)))]) (Ps (Pi [([],Sc 24 [v 0,v 1,v 2,v 3,Ce 0 (v 16)] 17 2)]) (Ps (Pi [([],Sc 72 [Ce 1 (v 9)] 19 1),([(E1 (U.not) (v 18),false),(v 19,true)],Sk (An (Le (N 0) (v 17)) (Lt (v 17) e41))),([(v 19,true)],Ss 20 (E3 (Tr.ite) (E1 (U.not) (v 18)) (Xt) (E2 (B.cmp (BinOp.neq)) (Ce 5 (Ix (v 1) (v 17))) e192))),([],Ss 21 (E3 (Tr.ite) (v 19) (v 20) (Xf)))]) (Pc (v 21) e42 Pk)))) (Pi [([],Sm 16 [])]))) (Pi [])))) (Pi [([],Sm 13 [v 13,v 14,Ad (v 15) (N 1)])])))))))) e146)) (Pi [])))) e114))))) e177)))))
theorem i74:Qi 74 p74:=zac (S:=s74) (no0:=3) (h:=h74) tabOk (by kernel_rfl) Go.Proofs.Tryz.func84 rfl (by kernel_rfl) (by kernel_rfl)
def h75:Hint:=Hz e82
def p75:PI:=Pz (Ps (Ps (Pi [([],Sc 74 [v 0,v 1,v 2,v 3] 8 1)]) e141) (Ps (Pi [([],Sc 38 [v 0,v 1,v 2,v 3,v 4,v 5,v 6,v 7] 9 6)]) (Pr [v 9,v 10,v 11,v 12,v 13,v 14])))
theorem i75:Qi 75 p75:=zac (S:=s75) (no0:=3) (h:=h75) tabOk (by kernel_rfl) Go.Proofs.Tryz.func32 rfl (by kernel_rfl) (by kernel_rfl)
def h76:Hint:=Hz (Hs (Hz (Hb (Jn [] [(0,[],Or false 84 (v 2)),(1,[],Or false 67 (v 3))] 8 0 4) (Hl (Jn [(1,[],SV.s (Sq e362)),(8,[],Js 1 67),(9,[],SV.s e59),(10,[],J 8)] [(0,[],Or false 84 (v 2)),(1,[],Or false 67 (v 3))] 8 1 4) (Hz (Hs e19 (Hs (Hb (Jn [(1,[],SV.s (Sq e362)),(8,[],Js 1 67),(9,[],SV.s e59),(10,[],J 8)] [(0,[],Or false 84 (v 2)),(1,[],Or false 67 (v 3))] 9 0 5) (Hz e5)) Hn)))))) (Hz Hn))
def p76:PI:=Pz (Ps (Pz (Pb 0 (Ps e160 (Pl (Ps (Pz (Ps (Pc e118 Pk (Ps e96 (Px 0))) (Ps (Pb 1 (Ps (Ps (Pi [([],Sk (An e99 e118)),([],Ss 9 e312)]) (Pz (Pc (E2 (B.scmp (BinOp.eql)) e192 (v 7)) e177 Pk))) e146)) (Pi [])))) e114))))) e42)
theorem i76:Qi 76 p76:=zac (S:=s76) (no0:=2) (h:=h76) tabOk (by kernel_rfl) Go.Proofs.Tryz.func88 rfl (by kernel_rfl) (by kernel_rfl)
def h77:Hint:=Hz (Hz (Hs e5 (Hs (Hz (Hb (Jn [(2,[],Jp 3 0),(5,[],Jp 6 0)] [(0,[],Or false 78 (v 1)),(1,[],Or false 65 (v 2)),(2,[],Or false 3 (v 3)),(3,[],Ob true [Li 0,Ow 0 78,Ow 1 65,Ow 2 3]),(4,[],Or false 84 (v 9)),(5,[],Or false 67 (v 10)),(6,[],Ob true [Leaf.int (.i64) e72,Leaf.int (.i64) e68,Ow 4 84,Ow 5 67,Leaf.int (.i64) e84,Leaf.int (.i64) e83,Lb e77])] 9 2 9) (Hl (Jn [(2,[],Jp 3 0),(5,[],Jp 6 0),(38,[],Js 4 84),(39,[],SV.s e55),(40,[],J 11)] [(0,[],Or false 78 (v 1)),(1,[],Or false 65 (v 2)),(2,[],Or false 3 (v 3)),(3,[],Ob true [Li 0,Ow 0 78,Ow 1 65,Ow 2 3]),(4,[],Or false 84 (v 9)),(5,[],Or false 67 (v 10)),(6,[],Ob true [Leaf.int (.i64) e72,Leaf.int (.i64) e68,Ow 4 84,Ow 5 67,Leaf.int (.i64) e84,Leaf.int (.i64) e83,Lb e77])] 9 3 9) (Hz (Hs e19 (Hs (Hb (Jn [(2,[],Jp 3 0),(5,[],Jp 6 0),(38,[],Js 4 84),(39,[],SV.s e55),(40,[],J 11)] [(0,[],Or false 78 (v 1)),(1,[],Or false 65 (v 2)),(2,[],Or false 3 (v 3)),(3,[],Ob true [Li 0,Ow 0 78,Ow 1 65,Ow 2 3]),(4,[],Or false 84 (v 9)),(5,[],Or false 67 (v 10)),(6,[],Ob true [Leaf.int (.i64) e72,Leaf.int (.i64) e68,Ow 4 84,Ow 5 67,Leaf.int (.i64) e84,Leaf.int (.i64) e83,Lb e77])] 12 0 11) (Hz (Hs e5 (Hz (Hb (Jn [(2,[],Jp 3 0),(5,[],Jp 6 0),(38,[],Js 4 84),(39,[],SV.s e55),(40,[],J 11)] [(0,[],Or false 78 (v 1)),(1,[],Or false 65 (v 2)),(2,[],Or false 3 (v 3)),(3,[],Ob true [Li 0,Ow 0 78,Ow 1 65,Ow 2 3]),(4,[],Or false 84 (v 9)),(5,[],Or false 67 (v 10)),(6,[],Ob true [Leaf.int (.i64) e72,Leaf.int (.i64) e68,Ow 4 84,Ow 5 67,Leaf.int (.i64) e84,Leaf.int (.i64) e83,Lb e77])] 19 0 11) (Hl (Jn [(2,[],Jp 3 0),(5,[],Jp 6 0),(7,[],Jp 9 0),(38,[],Js 4 84),(39,[],SV.s e55),(40,[],J 11),(69,[],SV.s e276),(70,[],J 11),(71,[],J 19)] [(0,[],Or false 78 (v 1)),(1,[],Or false 65 (v 2)),(2,[],Or false 3 (v 3)),(3,[],Ob true [Li 0,Ow 0 78,Ow 1 65,Ow 2 3]),(4,[],Or false 84 (v 9)),(5,[],Or false 67 (v 10)),(6,[],Ob true [Leaf.int (.i64) e72,Leaf.int (.i64) e68,Ow 4 84,Ow 5 67,Leaf.int (.i64) e84,Leaf.int (.i64) e83,Lb e77]),(9,[],Ob true [Lz e292,Lz (Ce 1 (v 12)),Leaf.int (.i64) (Ce 2 (v 12)),Leaf.int (.i64) (Ce 3 (v 12)),Lb e365])] 19 1 11) (Hz (Hs e19 (Hs (Hb (Jn [(2,[],Jp 3 0),(5,[],Jp 6 0),(7,[],Jp 9 0),(38,[],Js 4 84),(39,[],SV.s e55),(40,[],J 11),(69,[],SV.s e276),(70,[],J 11),(71,[],J 19)] [(0,[],Or false 78 (v 1)),(1,[],Or false 65 (v 2)),(2,[],Or false 3 (v 3)),(3,[],Ob true [Li 0,Ow 0 78,Ow 1 65,Ow 2 3]),(4,[],Or false 84 (v 9)),(5,[],Or false 67 (v 10)),(6,[],Ob true [Leaf.int (.i64) e72,Leaf.int (.i64) e68,Ow 4 84,Ow 5 67,Leaf.int (.i64) e84,Leaf.int (.i64) e83,Lb e77]),(9,[],Ob true [Lz e292,Lz (Ce 1 (v 12)),Leaf.int (.i64) (Ce 2 (v 12)),Leaf.int (.i64) (Ce 3 (v 12)),Lb e365])] 20 0 12) (Hz e5)) Hn))))))))) Hn)))))) (Hz (Hs (Hz (Hb (Jn [(5,[],Jp 6 0)] [(0,[],Or false 78 (v 1)),(1,[],Or false 65 (v 2)),(2,[],Or false 3 (v 3)),(4,[],Or false 84 (v 9)),(5,[],Or false 67 (v 10)),(6,[],Ob true [Leaf.int (.i64) e72,Leaf.int (.i64) e68,Ow 4 84,Ow 5 67,Leaf.int (.i64) e84,Leaf.int (.i64) e83,Lb e77])] 12 0 11) (Hl (Jn [(2,[],Jp 3 0),(5,[],Jp 6 0),(10,[],SV.s (Sq (Lb (v 11)))),(91,[],Js 5 67),(92,[],SV.s e318),(93,[],J 12)] [(0,[],Or false 78 (v 1)),(1,[],Or false 65 (v 2)),(2,[],Or false 3 (v 3)),(3,[],Ob true [Li 0,Ow 0 78,Ow 1 65,Ow 2 3]),(4,[],Or false 84 (v 9)),(5,[],Or false 67 (v 10)),(6,[],Ob true [Leaf.int (.i64) e72,Leaf.int (.i64) e68,Ow 4 84,Ow 5 67,Leaf.int (.i64) e84,Leaf.int (.i64) e83,Lb e77])] 12 1 11) (Hz (Hs e19 (Hs (Hb (Jn [(2,[],Jp 3 0),(5,[],Jp 6 0),(10,[],SV.s (Sq (Lb (v 11)))),(91,[],Js 5 67),(92,[],SV.s e318),(93,[],J 12)] [(0,[],Or false 78 (v 1)),(1,[],Or false 65 (v 2)),(2,[],Or false 3 (v 3)),(3,[],Ob true [Li 0,Ow 0 78,Ow 1 65,Ow 2 3]),(4,[],Or false 84 (v 9)),(5,[],Or false 67 (v 10)),(6,[],Ob true [Leaf.int (.i64) e72,Leaf.int (.i64) e68,Ow 4 84,Ow 5 67,Leaf.int (.i64) e84,Leaf.int (.i64) e83,Lb e77])] 13 0 13) (Hz (Hs e171 (Hz e5)))) Hn)))))) e82)))))
def p77:PI:=Pz (Ps (Pi [([],Sk (An (Le (N 0) (v 4)) (Lt (v 4) e49))),([],Ss 5 e22),([],Sk (E1 (U.isList) e217)),([],Sk e315)]) (Ps (Ps (Pi [([(E2 (B.cmp (BinOp.neq)) e72 (Ad (v 4) (N 1)),false)],Sc 40 [Ce 1 (v 5),N 1,N 5] 6 1),([],Ss 7 (E3 (Tr.ite) (E2 (B.cmp (BinOp.neq)) e72 (Ad (v 4) (N 1))) (Xt) e286)),([],Ss 8 (E3 (Tr.ite) (v 7) (Xt) (E2 (B.cmp (BinOp.gtr)) (Ln e217) (N 40))))]) (Pc (v 8) e42 Pk)) (Ps (Pz (Pb 0 (Ps (Pi [([],Sm 9 [Ce 2 (v 5),Ce 3 (v 5),N 0])]) (Pl (Ps (Pz (Ps (Pc (Lt (v 11) (Ln e217)) Pk (Ps e178 (Px 0))) (Ps (Pb 1 (Ps (Ps e116 (Ps (Ps (Pi [([],Sc 52 [Ce 0 (v 12)] 13 1),([(E1 (U.not) (v 13),false)],Sc 53 [Ce 1 (v 12)] 14 1),([],Ss 15 (E3 (Tr.ite) e270 (Xt) e269)),([(v 15,false)],Sc 67 [Ce 2 (v 12),Ce 3 (v 12),Ce 4 (v 12)] 16 1),([],Ss 17 (E3 (Tr.ite) (v 15) (Xt) (E1 (U.not) (v 16)))),([],Ss 18 (E3 (Tr.ite) (v 17) (Xt) e365))]) (Pc (v 18) e42 Pk)) (Ps (Pi [([],Sk (An e122 (An e221 (Le (v 11) e310))))]) (Pb 2 (Ps e214 (Pl (Ps (Pz (Ps (Pc (Lt (v 19) (v 11)) Pk (Ps e245 (Px 2))) (Ps (Pb 3 (Ps (Ps (Pi [([],Sk (An (Le (N 0) (v 19)) (Lt (v 19) (v 11)))),([],Ss 20 (Ix (v 9) (v 19)))]) (Pz (Pc (E2 (B.scmp (BinOp.eql)) (Ce 0 (v 20)) e292) e42 Pk))) e244)) (Pi [])))) e252))))))) e246)) (Pi [])))) (Pi [([],Sm 9 [v 9,v 10,Ad (v 11) (N 1)])])))))) (Ps (Pi [([],Ss 11 (E3 (Tr.ite) (Ee e68 (N 2)) (Xt) (Ee e68 (N 3))))]) (Ps (Pz (Pb 4 (Ps (Pi [([],Sm 12 [N 0])]) (Pl (Ps (Pz (Ps (Pc (Lt (v 12) e242) Pk (Ps e246 (Px 4))) (Ps (Pb 5 (Ps (Ps (Pi [([],Sk (An (Le (N 0) (v 12)) (Lt (v 12) e242))),([],Ss 13 (Ix (v 10) (v 12)))]) (Ps (Ps (Pi [([],Sc 52 [Ce 0 (v 13)] 14 1),([(E1 (U.not) (v 14),false)],Sc 53 [Ce 1 (v 13)] 15 1),([],Ss 16 (E3 (Tr.ite) e269 (Xt) e268)),([(E2 (B.cmp (BinOp.gtr)) (v 12) (N 0),true),(v 16,false)],Sk (An (Le (N 0) e294) (Lt e294 e242))),([(v 16,false)],Ss 17 (E3 (Tr.ite) (E2 (B.cmp (BinOp.gtr)) (v 12) (N 0)) (E2 (B.scmp (BinOp.geq)) (Ce 0 (Ix (v 10) e294)) (Ce 0 (v 13))) (Xf))),([],Ss 18 (E3 (Tr.ite) (v 16) (Xt) (v 17)))]) (Pc (v 18) e42 Pk)) (Ps (Pi [([],Sc 54 [v 0,v 1,v 2,v 3,Ce 0 (v 13)] 19 7)]) (Ps (Pi [([(v 11,true)],Ss 26 (E3 (Tr.ite) (E1 (U.not) (v 25)) (Xt) (E2 (B.cmp (BinOp.neq)) (v 24) e72))),([],Ss 27 (E3 (Tr.ite) (v 11) (v 26) (Xf)))]) (Pc (v 27) e42 Pk))))) e371)) (Pi [])))) (Pi [([],Sm 12 [Ad (v 12) (N 1)])])))))) (Ps (Ps (Pi [([],Ss 12 (E3 (Tr.ite) (Ee e68 (N 3)) (Xt) (Ee e68 (N 4))))]) (Pc (v 12) (Ps (Pi [([],Sc 67 [Ce 4 (v 5),Ce 5 (v 5),Ce 6 (v 5)] 13 1),([],Ss 14 (E3 (Tr.ite) (v 13) (E1 (U.not) e77) (Xf)))]) (Pr [v 14])) Pk)) (Pz (Pr [An (Ee e84 (N 0)) (An (Ee e83 (N 0)) (E2 (B.bcmp (BinOp.eql)) e77 (Xf)))]))))))))
theorem i77:Qi 77 p77:=zac (S:=s77) (no0:=3) (h:=h77) tabOk (by kernel_rfl) Go.Proofs.Tryz.func89 rfl (by kernel_rfl) (by kernel_rfl)
def h78:Hint:=Hz (Hs (Hz (Hb (Jn [] [(0,[],Or false 3 (v 0))] 2 0 1) (Hl (Jn [(1,[],J 1),(7,[],Js 0 3),(8,[],SV.s e20),(9,[],J 2)] [(0,[],Or false 3 (v 0))] 2 1 1) (Hz (Hs e19 (Hs (Hb (Jn [(1,[],J 1),(7,[],Js 0 3),(8,[],SV.s e20),(9,[],J 2)] [(0,[],Or false 3 (v 0))] 3 0 1) (Hz e5)) Hn)))))) (Hz Hn))
def p78:PI:=Pz (Ps (Pz (Pb 0 (Ps e353 (Pl (Ps (Pz (Ps e241 (Ps (Pb 1 (Ps (Ps (Pi [([],Sk e109)]) (Pz (Pc (Ee e232 (v 1)) e177 Pk))) (Pi [([],Sm 3 [])]))) (Pi [])))) e263))))) e42)
theorem i78:Qi 78 p78:=zac (S:=s78) (no0:=1) (h:=h78) tabOk (by kernel_rfl) Go.Proofs.Tryz.func58 rfl (by kernel_rfl) (by kernel_rfl)
def h79:Hint:=Hz (Hs e5 (Hs (Hz (Hb (Jn [(1,[],Jp 3 0)] [(0,[],Or false 78 (v 1)),(1,[],Or false 65 (v 2)),(2,[],Or false 3 (v 3)),(3,[],Ob true [Li 0,Ow 0 78,Ow 1 65,Ow 2 3])] 7 0 7) (Hl (Jn [(1,[],Jp 3 0),(29,[],Js 0 78),(30,[],SV.s e30),(31,[],J 7)] [(0,[],Or false 78 (v 1)),(1,[],Or false 65 (v 2)),(2,[],Or false 3 (v 3)),(3,[],Ob true [Li 0,Ow 0 78,Ow 1 65,Ow 2 3])] 7 1 7) (Hz (Hs e19 (Hs (Hb (Jn [(1,[],Jp 3 0),(29,[],Js 0 78),(30,[],SV.s e30),(31,[],J 7)] [(0,[],Or false 78 (v 1)),(1,[],Or false 65 (v 2)),(2,[],Or false 3 (v 3)),(3,[],Ob true [Li 0,Ow 0 78,Ow 1 65,Ow 2 3])] 8 0 10) (Hz (Hs (Hs (Hr (mt mo (mt mo (mt mo (mt mo (mt mo (mt mo (mt mo (mt mo (mt mo (mt mo (mt mo (mt mo (mt mo (mt mo (mt mo (mt mo (mt mo (mt e6 (mt e50 (mt e25 (mt mo (mt mo (mt mo (mt mo (mt mo (mt e327 (mt e81 (mt e163 e24))))))))))))))))))))))))))))) e70) (Hs (Hz e19) (Hz (Hs (Hr (mt mo (mt mo (mt mo (mt mo (mt mo (mt mo (mt mo (mt (mf e167 mo) (mt e167 (mt (mf e358 mo) (mt e358 (mt e6 e107))))))))))))) e70)))))) Hn)))))) (Hz (Hs (Hz (Hb (Jn [(1,[],Jp 3 0),(6,[],J 7)] [(0,[],Or false 78 (v 1)),(1,[],Or false 65 (v 2)),(2,[],Or false 3 (v 3)),(3,[],Ob true [Li 0,Ow 0 78,Ow 1 65,Ow 2 3])] 7 1 10) (Hl (Jn [(1,[],Jp 3 0),(6,[],J 7),(113,[],Js 1 65),(114,[],SV.s e33),(115,[],J 8)] [(0,[],Or false 78 (v 1)),(1,[],Or false 65 (v 2)),(2,[],Or false 3 (v 3)),(3,[],Ob true [Li 0,Ow 0 78,Ow 1 65,Ow 2 3])] 7 2 10) (Hz (Hs e19 (Hs (Hb (Jn [(1,[],Jp 3 0),(6,[],J 9),(113,[],Js 1 65),(114,[],SV.s e33),(115,[],J 8)] [(0,[],Or false 78 (v 1)),(1,[],Or false 65 (v 2)),(2,[],Or false 3 (v 3)),(3,[],Ob true [Li 0,Ow 0 78,Ow 1 65,Ow 2 3])] 9 1 13) (Hz (Hs e5 (Hz (Hc (some (Jn [(1,[],Jp 3 0),(6,[],J 12),(113,[],Js 1 65),(114,[],SV.s e33),(115,[],J 8)] [(0,[],Or false 78 (v 1)),(1,[],Or false 65 (v 2)),(2,[],Or false 3 (v 3)),(3,[],Ob true [Li 0,Ow 0 78,Ow 1 65,Ow 2 3])] 12 1 13)) Hn Hn))))) Hn)))))) (Hs (Hz (Hb (Jn [(1,[],Jp 3 0),(6,[],J 7)] [(0,[],Or false 78 (v 1)),(1,[],Or false 65 (v 2)),(2,[],Or false 3 (v 3)),(3,[],Ob true [Li 0,Ow 0 78,Ow 1 65,Ow 2 3])] 8 0 10) (Hl (Jn [(1,[],Jp 3 0),(6,[],J 7),(136,[],Js 2 3),(137,[],SV.s e59),(138,[],J 8)] [(0,[],Or false 78 (v 1)),(1,[],Or false 65 (v 2)),(2,[],Or false 3 (v 3)),(3,[],Ob true [Li 0,Ow 0 78,Ow 1 65,Ow 2 3])] 8 1 10) (Hz (Hs e19 (Hs (Hb (Jn [(1,[],Jp 3 0),(6,[],J 7),(136,[],Js 2 3),(137,[],SV.s e59),(138,[],J 8)] [(0,[],Or false 78 (v 1)),(1,[],Or false 65 (v 2)),(2,[],Or false 3 (v 3)),(3,[],Ob true [Li 0,Ow 0 78,Ow 1 65,Ow 2 3])] 9 0 10) (Hz (Hz e5))) Hn)))))) (Hz Hn))))))
def p79:PI:=Pz (Ps (Ps (Pi [([],Sc 40 [v 0,N 1,N 1000] 4 1),([],Ss 5 e138),([],Ss 6 e165)]) (Pc (v 6) e42 Pk)) (Ps (Pz (Pb 0 (Ps (Pi [([],Sm 7 [N 0])]) (Pl (Ps (Pz (Ps (Pc (Lt (v 7) e41) Pk (Ps (Pi [([],Sm 7 [])]) (Px 0))) (Ps (Pb 1 (Ps (Ps (Pi [([],Sk (An (Le (N 0) (v 7)) (Lt (v 7) e41))),([],Ss 8 (Ix (v 1) (v 7)))]) (Ps (Ps (Pi [([],Sc 52 [Ce 0 (v 8)] 9 1),([(E1 (U.not) (v 9),false)],Sc 53 [Ce 1 (v 8)] 10 1),([],Ss 11 (E3 (Tr.ite) e283 (Xt) e158)),([(v 11,false)],Sc 67 [Ce 2 (v 8),Ce 3 (v 8),Ce 4 (v 8)] 12 1),([],Ss 13 e211),([],Ss 14 (E3 (Tr.ite) (v 13) (Xt) (E2 (B.cmp (BinOp.gtr)) (Ce 2 (v 8)) (v 0)))),([],Ss 15 (E3 (Tr.ite) (v 14) (Xt) (E2 (B.bcmp (BinOp.neq)) (Ce 4 (v 8)) (E2 (B.cmp (BinOp.neq)) (Ce 5 (v 8)) (N 0))))),([(E2 (B.cmp (BinOp.gtr)) (v 7) (N 0),true),(v 15,false)],Sk (An (Le (N 0) e306) (Lt e306 e41))),([(v 15,false)],Ss 16 (E3 (Tr.ite) (E2 (B.cmp (BinOp.gtr)) (v 7) (N 0)) (E2 (B.scmp (BinOp.geq)) (Ce 0 (Ix (v 1) e306)) (Ce 0 (v 8))) (Xf))),([],Ss 17 (E3 (Tr.ite) (v 15) (Xt) (v 16)))]) (Pc (v 17) e42 Pk)) (Ps (Pz (Pc (Ee (Ce 5 (v 8)) (N 0)) (Ps e96 (Px 1)) Pk)) (Ps (Pi [([],Sc 51 [v 0,v 1,v 2,v 3,Ce 5 (v 8)] 18 1)]) (Ps (Pi [([],Ss 19 (E3 (Tr.ite) (E2 (B.cmp (BinOp.neq)) (v 18) (N 2)) e249 (Xf))),([(v 19,false)],Sk (An (Le (N 0) e224) (Lt e224 e49))),([(v 19,false)],Ss 20 (Ix (v 2) e224)),([(v 19,false)],Sk (E1 (U.isList) (Ce 2 (v 20)))),([(v 19,false)],Sk (E1 (U.isList) (Ce 3 (v 20)))),([(v 19,false)],Sc 76 [Ce 0 (v 20),Ce 1 (v 20),Ce 2 (v 20),Ce 3 (v 20),Ce 4 (v 20),Ce 5 (v 20),Ce 6 (v 20),Ce 0 (v 8)] 21 1),([],Ss 22 (E3 (Tr.ite) (v 19) (Xt) (E1 (U.not) (v 21))))]) (Pc (v 22) e42 Pk)))))) e96)) (Pi [])))) (Pi [([],Sm 7 [Ad (v 7) (N 1)])])))))) (Pz (Ps (Pz (Pb 2 (Ps (Pi [([],Sm 7 [N 0,N 0])]) (Pl (Ps (Pz (Ps (Pc e341 Pk (Ps e161 (Px 2))) (Ps (Pb 3 (Ps (Ps e75 (Ps (Ps (Pi [([],Sc 77 [v 0,v 1,v 2,v 3,v 8] 10 1)]) (Pc e158 e42 Pk)) (Ps (Pi [([],Ss 11 e152)]) (Pc (v 11) (Pz (Pi [([],Sm 12 [Ad (v 7) (N 1)])])) (Ps Pk (Pi [([],Sm 12 [v 7])])))))) (Pi [([],Sm 9 [v 12])]))) (Pi [])))) e239))))) (Ps (Pz (Pb 4 (Ps e160 (Pl (Ps (Pz (Ps (Pc e118 Pk (Ps e96 (Px 4))) (Ps (Pb 5 (Ps (Ps e302 (Ps (Pi [([],Sc 51 [v 0,v 1,v 2,v 3,Ix (v 3) (v 8)] 9 1)]) (Ps (Pi [([],Ss 10 (E3 (Tr.ite) (E2 (B.cmp (BinOp.neq)) (v 9) (N 3)) (E2 (B.cmp (BinOp.neq)) (v 9) (N 4)) (Xf))),([(v 10,false)],Sk (An e122 (An e99 (Le (v 8) e205)))),([(v 10,false)],Sc 78 [E3 (Tr.ext) (v 3) (N 0) (v 8),Ix (v 3) (v 8)] 11 1),([],Ss 12 (E3 (Tr.ite) (v 10) (Xt) (v 11)))]) (Pc (v 12) e42 Pk)))) e146)) (Pi [])))) e114))))) (Pz (Pr [Ee e205 (v 7)])))))))
theorem i79:Qi 79 p79:=zac (S:=s79) (no0:=3) (h:=h79) tabOk (by kernel_rfl) Go.Proofs.Tryz.func34 rfl (by kernel_rfl) (by kernel_rfl)
def h80:Hint:=Hz (Hs e5 (Hs e47 e82))
def p80:PI:=Pz (Ps (Ps (Pi [([],Sc 79 [v 0,v 1,v 2,v 3] 8 1)]) e141) (Ps (Pi [([],Sc 41 [v 0,v 1,v 2,v 3] 9 4),([],Sc 64 [v 9,v 10,v 11,v 12,v 4,v 5,v 6,v 7] 13 6)]) (Ps (Ps (Pi [([],Ss 19 (E3 (Tr.ite) (E2 (B.cmp (BinOp.neq)) (v 18) (N 0)) e249 (Xf)))]) (Pc (v 19) (Ps (Pi [([],Sc 41 [v 0,v 1,v 2,v 3] 20 4)]) (Pr [v 20,v 21,v 22,v 23,Exp.str [],v 18])) Pk)) (Pz (Pr [v 13,v 14,v 15,v 16,v 17,v 18])))))
theorem i80:Qi 80 p80:=zac (S:=s80) (no0:=3) (h:=h80) tabOk (by kernel_rfl) Go.Proofs.Tryz.func33 rfl (by kernel_rfl) (by kernel_rfl)
def h81:Hint:=Hz (Hz e82)
def p81:PI:=Pz (Ps (Pi [([],Sc 24 [v 0,v 1,v 2,v 3,v 4] 5 2)]) (Ps (Ps (Pi [([],Sc 74 [v 0,v 1,v 2,v 3] 7 1),([],Ss 8 (E3 (Tr.ite) e285 (Xt) e286))]) (Pc (v 8) (Pz (Pr [Exp.str [],Exp.str [],N 0,N 0,Xf,N 0,Xf])) Pk)) (Ps (Pi [([],Sk e256),([],Ss 9 (Ix (v 1) (v 5)))]) (Pr [Ce 0 (v 9),Ce 1 (v 9),Ce 2 (v 9),Ce 3 (v 9),Ce 4 (v 9),Ce 5 (v 9),Xt]))))
theorem i81:Qi 81 p81:=zac (S:=s81) (no0:=3) (h:=h81) tabOk (by kernel_rfl) Go.Proofs.Tryz.func35 rfl (by kernel_rfl) (by kernel_rfl)
def h82:Hint:=Hz (Hz Hn)
def p82:PI:=Pz (Ps (Pi [([],Sc 74 [v 0,v 1,v 2,v 3] 4 1)]) (Pr [v 4]))
theorem i82:Qi 82 p82:=zac (S:=s82) (no0:=3) (h:=h82) tabOk (by kernel_rfl) Go.Proofs.Tryz.func36 rfl (by kernel_rfl) (by kernel_rfl)
def h83:Hint:=Hz (Hs e5 (Hz (Hz (Hz (Hs e5 (Hs (Hz (Hb (Jn [(1,[],Js 1 5)] [(0,[],Or false 5 (v 0)),(1,[],Or false 5 (v 1))] 18 0 17) (Hl (Jn [(1,[],Js 1 5),(7,[],Jp 7 0),(68,[],Js 5 3),(69,[],SV.s e29),(70,[],J 18)] [(0,[],Or false 5 (v 0)),(1,[],Or false 5 (v 1)),(3,[],Or true 78 (v 5)),(4,[],Or true 65 (v 6)),(5,[],Or true 3 (v 7)),(7,[],Ob true [Li 4,Ow 3 78,Ow 4 65,Ow 5 3])] 18 1 17) (Hz (Hs e19 (Hs (Hb e44 (Hz (Hz (Hb e44 (Hl (Jn [(1,[],Js 1 5),(7,[],Jp 7 0),(14,[],SV.s e56),(68,[],Js 5 3),(69,[],SV.s e29),(70,[],J 18),(78,[],SV.s e71),(79,[],J 18),(80,[],J 19)] [(0,[],Or false 5 (v 0)),(1,[],Or false 5 (v 1)),(3,[],Or true 78 (v 5)),(4,[],Or true 65 (v 6)),(5,[],Or true 3 (v 7)),(7,[],Ob true [Li 4,Ow 3 78,Ow 4 65,Ow 5 3])] 19 1 21) (Hz (Hs e19 (Hs (Hb e37 (Hz (Hz (Hb e37 (Hl (Jn [(1,[],Js 1 5),(7,[],Jp 7 0),(14,[],SV.s e56),(16,[],SV.s e79),(68,[],Js 5 3),(69,[],SV.s e29),(70,[],J 18),(78,[],SV.s e71),(79,[],J 18),(80,[],J 19),(90,[],Js 21 67),(91,[],SV.s e67),(92,[],J 21)] [(0,[],Or false 5 (v 0)),(1,[],Or false 5 (v 1)),(3,[],Or true 78 (v 5)),(4,[],Or true 65 (v 6)),(5,[],Or true 3 (v 7)),(7,[],Ob true [Li 4,Ow 3 78,Ow 4 65,Ow 5 3]),(21,[],Obj.view 4 (v 6) e32 3 67 (v 20))] 20 2 25) (Hz (Hs e19 (Hs (Hb (Jn [(1,[],Js 1 5),(7,[],Jp 7 0),(14,[],SV.s e56),(16,[],SV.s e79),(68,[],Js 5 3),(69,[],SV.s e29),(70,[],J 18),(78,[],SV.s e71),(79,[],J 18),(80,[],J 19),(90,[],Js 21 67),(91,[],SV.s e67),(92,[],J 21)] [(0,[],Or false 5 (v 0)),(1,[],Or false 5 (v 1)),(3,[],Or true 78 (v 5)),(4,[],Or true 65 (v 6)),(5,[],Or true 3 (v 7)),(7,[],Ob true [Li 4,Ow 3 78,Ow 4 65,Ow 5 3]),(21,[],Obj.view 4 (v 6) e32 3 67 (v 22))] 22 1 28) (Hz (Hz (Hb (Jn [(1,[],Js 1 5),(7,[],Jp 7 0),(14,[],SV.s e56),(16,[],SV.s e79),(68,[],Js 5 3),(69,[],SV.s e29),(70,[],J 18),(78,[],SV.s e71),(79,[],J 18),(80,[],J 19),(90,[],Js 21 67),(91,[],SV.s e67),(92,[],J 21)] [(0,[],Or false 5 (v 0)),(1,[],Or false 5 (v 1)),(3,[],Or true 78 (v 5)),(4,[],Or true 65 (v 6)),(5,[],Or true 3 (v 7)),(7,[],Ob true [Li 4,Ow 3 78,Ow 4 65,Ow 5 3]),(21,[],Obj.view 4 (v 6) e32 3 67 (v 23))] 23 1 28) (Hl (Jn [(1,[],Js 1 5),(7,[],Jp 7 0),(14,[],SV.s e56),(16,[],SV.s e79),(18,[],Jp 25 0),(68,[],Js 5 3),(69,[],SV.s e29),(70,[],J 18),(78,[],SV.s e71),(79,[],J 18),(80,[],J 19),(90,[],Js 21 67),(91,[],SV.s e67),(92,[],J 21),(102,[],Js 26 67),(103,[],SV.s e279),(104,[],J 25)] [(0,[],Or false 5 (v 0)),(1,[],Or false 5 (v 1)),(3,[],Or true 78 (v 5)),(4,[],Or true 65 (v 6)),(5,[],Or true 3 (v 7)),(7,[],Ob true [Li 4,Ow 3 78,Ow 4 65,Ow 5 3]),(25,[],Ob true [Lz e291,Lz (Ce 1 (v 22))]),(21,[],Obj.view 4 (v 6) e32 3 67 (v 23)),(26,[],Obj.view 4 (v 6) e45 3 67 (v 24))] 23 3 28) (Hz (Hs e19 (Hs (Hb (Jn [(1,[],Js 1 5),(7,[],Jp 7 0),(14,[],SV.s e56),(16,[],SV.s e79),(18,[],Jp 25 0),(68,[],Js 5 3),(69,[],SV.s e29),(70,[],J 18),(78,[],SV.s e71),(79,[],J 18),(80,[],J 19),(90,[],Js 21 67),(91,[],SV.s e67),(92,[],J 21),(102,[],Js 26 67),(103,[],SV.s e279),(104,[],J 25)] [(0,[],Or false 5 (v 0)),(1,[],Or false 5 (v 1)),(3,[],Or true 78 (v 5)),(4,[],Or true 65 (v 6)),(5,[],Or true 3 (v 7)),(7,[],Ob true [Li 4,Ow 3 78,Ow 4 65,Ow 5 3]),(25,[],Ob true [Lz e291,Lz (Ce 1 (v 22))]),(21,[],Obj.view 4 (v 6) e32 3 67 (v 26)),(26,[],Obj.view 4 (v 6) e45 3 67 (v 27))] 26 2 29) (Hz (Hs (Hr (mt (mf (mf mo (mt mo (mt (mf (mf (mf e50 (mf e203 e357)) mo) mo) mo))) mo) (mf (mf mo (mf mo (mf (mf (mf e108 mo) mo) mo))) (mf mo (mf mo (mf (mf (mf (mf (mf e203 mo) (mf e203 (mf mo (mf mo e163)))) mo) mo) (mf (mf e108 mo) (mf e108 (mf (mf e203 mo) (mf e203 (mf mo (mf mo (mt mo (mt mo (mt mo (mt mo (mt mo (mt e14 e303)))))))))))))))))) e5))) Hn)))))))) Hn)))))))) Hn)))))))) Hn)))))) (Hz (Hz (Hz (Hs e5 (Hs e5 e89)))))))))))
def p83:PI:=Pz (Ps (Pz (Pc (E2 (B.cmp (BinOp.gtr)) (Ad e36 e41) (N 1048576)) e177 Pk)) (Ps (Pi [([],Sc 8 [v 0] 2 2)]) (Ps (Pi [([],Sc 39 [v 2,v 3] 4 6)]) (Ps (Pi [([],Sc 65 [v 2,v 3] 10 6)]) (Ps (Ps (Pi [([(E2 (B.bcmp (BinOp.neq)) (v 9) (v 15),false)],Sc 66 [v 8,v 14] 16 1),([],Ss 17 (E3 (Tr.ite) (E2 (B.bcmp (BinOp.neq)) (v 9) (v 15)) (Xt) (E1 (U.not) (v 16))))]) (Pc (v 17) e42 Pk)) (Ps (Pz (Pb 0 (Ps (Pi [([],Sm 18 [N 0])]) (Pl (Ps (Pz (Ps (Pc (Lt (v 18) e131) Pk (Ps e369 (Px 0))) (Ps (Pb 1 (Ps (Ps (Pi [([],Sk (An e299 (Lt (v 18) e131)))]) (Ps (Pi [([],Sk (An e122 (An e299 (Le (v 18) e131))))]) (Pb 2 (Ps e214 (Pl (Ps (Pz (Ps (Pc (Lt (v 19) (v 18)) Pk (Ps e245 (Px 2))) (Ps (Pb 3 (Ps (Ps (Pi [([],Sk (An (Le (N 0) (v 19)) (Lt (v 19) (v 18))))]) (Ps (Pi [([],Sk e273),([],Sk (E1 (U.isList) (Ce 3 e215)))]) (Pb 4 (Ps (Pi [([],Sm 20 [Ce 3 e215,N 0])]) (Pl (Ps (Pz (Ps (Pc (Lt (v 21) (Ln (Ce 3 e215))) Pk (Ps e244 (Px 4))) (Ps (Pb 5 (Ps (Ps (Pi [([],Sk (An (Le (N 0) (v 21)) (Lt (v 21) (Ln (v 20))))),([],Ss 22 (Ix (v 20) (v 21)))]) (Ps (Pi [([],Sk e272),([],Sk (E1 (U.isList) e176))]) (Pb 6 (Ps (Pi [([],Sm 23 [v 20,Ce 3 e346,N 0])]) (Pl (Ps (Pz (Ps (Pc (Lt (v 25) (Ln e176)) Pk (Ps (Pi [([],Sm 23 [v 23])]) (Px 6))) (Ps (Pb 7 (Ps (Ps (Pi [([],Sk (An (Le (N 0) (v 25)) (Lt (v 25) (Ln (v 24))))),([],Ss 26 (Ix (v 24) (v 25)))]) (Ps (Pi [([],Sk e272),([],Ss 27 e346),([],Sk e273),([],Ss 28 e215),([],Sc 68 [Ce 4 (v 27),Ce 5 (v 27),Ce 6 (v 27),Ce 4 (v 28),Ce 5 (v 28),Ce 6 (v 28)] 29 2)]) (Ps (Pi [([(E2 (B.scmp (BinOp.eql)) e291 (Ce 0 (v 26)),true)],Ss 31 (E3 (Tr.ite) (E1 (U.not) (v 30)) (Xt) (E2 (B.cmp (BinOp.geq)) (v 29) (N 0)))),([],Ss 32 (E3 (Tr.ite) (E2 (B.scmp (BinOp.eql)) e291 (Ce 0 (v 26))) (v 31) (Xf)))]) (Pc (v 32) e42 Pk)))) (Pi [([],Sm 26 [v 23,v 24])]))) (Pi [])))) (Pi [([],Sm 23 [v 26,v 27,Ad (v 25) (N 1)])]))))))) (Pi [([],Sm 22 [v 23])]))) (Pi [])))) (Pi [([],Sm 20 [v 22,Ad (v 21) (N 1)])]))))))) e244)) (Pi [])))) e252)))))) e245)) (Pi [])))) (Pi [([],Sm 18 [Ad (v 18) (N 1)])])))))) (Ps (Pi [([],Sc 70 [v 1] 18 8)]) (Ps (Pi [([],Sc 75 [v 18,v 19,v 20,v 21,v 22,v 23,v 24,v 25] 26 6)]) (Ps (Pi [([],Sc 80 [v 18,v 19,v 20,v 21,v 22,v 23,v 24,v 25] 32 6)]) (Ps (Ps (Pi [([],Ss 38 (E3 (Tr.ite) (E2 (B.cmp (BinOp.neq)) (v 31) (v 37)) (Xt) (E2 (B.scmp (BinOp.neq)) (v 30) (v 36))))]) (Pc (v 38) e42 Pk)) (Ps (Ps (Pi [([],Sc 79 [v 18,v 19,v 20,v 21] 39 1)]) (Pc (E1 (U.not) (v 39)) (Pz (Pr [Ee (v 31) (N 1)])) Pk)) (Ps (Pi [([],Sc 81 [v 26,v 27,v 28,v 29,v 24] 40 7)]) (Ps (Pi [([],Sc 82 [v 26,v 27,v 28,v 29] 47 1),([(v 47,true)],Ss 48 (E3 (Tr.ite) (E1 (U.not) (v 46)) (Xt) (E2 (B.scmp (BinOp.eql)) (v 40) (v 24)))),([],Ss 49 (E3 (Tr.ite) (v 47) (v 48) (Xf)))]) (Pr [v 49]))))))))))))))
theorem i83:Qi 83 p83:=zac (S:=s83) (no0:=2) (h:=h83) tabOk (by kernel_rfl) Go.Proofs.Tryz.func5 rfl (by kernel_rfl) (by kernel_rfl)
def ps:List PI:=[p0,p1,p2,p3,p4,p5,p6,p7,p8,p9,p10,p11,p12,p13,p14,p15,p16,p17,p18,p19,p20,p21,p22,p23,p24,p25,p26,p27,p28,p29,p30,p31,p32,p33,p34,p35,p36,p37,p38,p39,p40,p41,p42,p43,p44,p45,p46,p47,p48,p49,p50,p51,p52,p53,p54,p55,p56,p57,p58,p59,p60,p61,p62,p63,p64,p65,p66,p67,p68,p69,p70,p71,p72,p73,p74,p75,p76,p77,p78,p79,p80,p81,p82,p83]
theorem all:AllInst Go.Proofs.Tryz.prog tab sigs ps 0:=⟨i0,i1,i2,i3,i4,i5,i6,i7,i8,i9,i10,i11,i12,i13,i14,i15,i16,i17,i18,i19,i20,i21,i22,i23,i24,i25,i26,i27,i28,i29,i30,i31,i32,i33,i34,i35,i36,i37,i38,i39,i40,i41,i42,i43,i44,i45,i46,i47,i48,i49,i50,i51,i52,i53,i54,i55,i56,i57,i58,i59,i60,i61,i62,i63,i64,i65,i66,i67,i68,i69,i70,i71,i72,i73,i74,i75,i76,i77,i78,i79,i80,i81,i82,i83,trivial⟩
end Gp.YtddabbooahooeaaGreatDoor
