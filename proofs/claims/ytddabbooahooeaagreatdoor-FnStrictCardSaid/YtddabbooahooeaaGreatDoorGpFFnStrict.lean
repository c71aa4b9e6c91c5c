/- Gp: the seat's functions as pure programs; each checked by the kernel. -/
import Derived.Test.YtddabbooahooeaaGreatDoorGpCtl5
import Derived.Test.YtddabbooahooeaaGreatDoorGpTrim
import Derived.Test.YtddabbooahooeaaGreatDoorTl
import Derived.Test.YtddabbooahooeaaGreatDoorGpDel
import Derived.Test.YtddabbooahooeaaGreatDoorGpT
set_option linter.unusedVariables false
set_option linter.unusedSimpArgs false
set_option maxRecDepth 100000
namespace Gp.YtddabbooahooeaaGreatDoor
open Go Gp
abbrev v := @Exp.var
abbrev N := @Exp.int
abbrev E2 := @Exp.bin
abbrev E1 := @Exp.un
abbrev E3 := @Exp.tri
abbrev Hs := @Hint.seq
abbrev Hn := @Hint.nil
abbrev Hc := @Hint.cond
abbrev Hr := @Hint.reg
abbrev Hb := @Hint.block
abbrev Hl := @Hint.loop
abbrev Ps := @PI.seq
abbrev Pi := @PI.sis
abbrev Pk := @PI.skip
abbrev Pc := @PI.cond
abbrev Pb := @PI.block
abbrev Pl := @PI.loop
abbrev Px := @PI.exit
abbrev Pr := @PI.ret
abbrev Sc := @SI.call
abbrev Ss := @SI.set
abbrev Sm := @SI.mov
abbrev Sk := @SI.chk
abbrev Or := @Obj.row
abbrev Ob := @Obj.box
abbrev Ow := @Leaf.slw
abbrev Lb := @Leaf.bool
abbrev Lp := @Leaf.pb
abbrev I (n : Nat) : S1 := .one (.int .i64 (.var n))
abbrev J (n : Nat) : SV := .s (I n)
abbrev Li (n : Nat) : Leaf := .int .i64 (.var n)
abbrev Lu (n : Nat) : Leaf := .int .u64 (.var n)
abbrev Ad (a b : Exp) : Exp := .bin (.ar .add .i64) a b
abbrev Sb (a b : Exp) : Exp := .bin (.ar .sub .i64) a b
abbrev An (a b : Exp) : Exp := .bin .and a b
abbrev Le (a b : Exp) : Exp := .bin (.cmp .leq) a b
abbrev Lt (a b : Exp) : Exp := .bin (.cmp .lss) a b
abbrev Ee (a b : Exp) : Exp := .bin (.cmp .eql) a b
abbrev Ix (a b : Exp) : Exp := .bin .idx a b
abbrev Ln (a : Exp) : Exp := .un .len a
abbrev Ce (j : Nat) (a : Exp) : Exp := .un (.cell j) a
abbrev Jp (o j : Nat) : SV := .s (.one (.pb o j))
abbrev Js (o t : Nat) : SV := .s (.one (.slw o t))
abbrev Jn (a : List (Nat × (Grd × SV))) (b : List (Nat × (Grd × Obj))) (x y z : Nat) : Join := ⟨⟨a, b⟩, x, y, z, []⟩
abbrev mo := @MT.o
abbrev mt := @MT.n true
abbrev mf := @MT.n false
abbrev Hk := @Hint.blockN
abbrev Lz := @Leaf.str
abbrev Xn := Exp.nil
abbrev Xf := Exp.bool false
abbrev Xt := Exp.bool true
abbrev Hz (a : Hint) : Hint := .seq .nil a
abbrev Pz (a : PI) : PI := .seq (.sis []) a
abbrev Sq := @S1.one
abbrev e33 := mt mo (mt mo mo)
abbrev e266 := mt mo e33
abbrev e13 := mt mo e266
abbrev e124 := mf mo e13
abbrev e267 := mt mo e13
abbrev e27 := mt mo e267
abbrev e268 := mf mo e27
abbrev e160 := mf mo (mf mo e268)
abbrev e1 := mt mo (mt mo (mt mo (mt mo (mt mo (mt mo (mt mo (mt e124 e160)))))))
abbrev e14 := Ln (v 0)
abbrev e2 := Sq (Leaf.int (.i64) e14)
abbrev e3 := Sq (Leaf.fn 162 [])
abbrev e100 := Hc none (Hz Hn) Hn
abbrev e4 := Hz e100
abbrev e5 := mf mo e267
abbrev e6 := E1 (U.slen) (Exp.str [0, 1, 2, 2, 3, 3, 3, 3, 4, 4, 4, 4, 4, 4, 4, 4, 5, 5, 5, 5, 5, 5, 5, 5, 5, 5, 5, 5, 5, 5, 5, 5, 6, 6, 6, 6, 6, 6, 6, 6, 6, 6, 6, 6, 6, 6, 6, 6, 6, 6, 6, 6, 6, 6, 6, 6, 6, 6, 6, 6, 6, 6, 6, 6, 7, 7, 7, 7, 7, 7, 7, 7, 7, 7, 7, 7, 7, 7, 7, 7, 7, 7, 7, 7, 7, 7, 7, 7, 7, 7, 7, 7, 7, 7, 7, 7, 7, 7, 7, 7, 7, 7, 7, 7, 7, 7, 7, 7, 7, 7, 7, 7, 7, 7, 7, 7, 7, 7, 7, 7, 7, 7, 7, 7, 7, 7, 7, 7, 8, 8, 8, 8, 8, 8, 8, 8, 8, 8, 8, 8, 8, 8, 8, 8, 8, 8, 8, 8, 8, 8, 8, 8, 8, 8, 8, 8, 8, 8, 8, 8, 8, 8, 8, 8, 8, 8, 8, 8, 8, 8, 8, 8, 8, 8, 8, 8, 8, 8, 8, 8, 8, 8, 8, 8, 8, 8, 8, 8, 8, 8, 8, 8, 8, 8, 8, 8, 8, 8, 8, 8, 8, 8, 8, 8, 8, 8, 8, 8, 8, 8, 8, 8, 8, 8, 8, 8, 8, 8, 8, 8, 8, 8, 8, 8, 8, 8, 8, 8, 8, 8, 8, 8, 8, 8, 8, 8, 8, 8, 8, 8, 8, 8, 8, 8, 8, 8, 8, 8, 8, 8, 8, 8, 8, 8, 8, 8])
abbrev e7 := Hc none Hn Hn
abbrev e170 := mf mo e33
abbrev e8 := mf (mf e170 mo) (mt e170 e266)
abbrev e191 := E2 (B.ar (BinOp.mul) (.i64)) (N 2) (v 5)
abbrev e9 := Ad e191 (N 1)
abbrev e10 := mf e170 e267
abbrev e11 := Sq (Leaf.int (.i64) (Ad (N 1) (v 5)))
abbrev e254 := Le (N 0) (v 3)
abbrev e181 := Lt (v 3) e14
abbrev e25 := An e254 e181
abbrev e106 := Ix (v 0) (v 3)
abbrev e18 := Le (N 0) (v 1)
abbrev e282 := Lt (v 1) e14
abbrev e49 := An e18 e282
abbrev e107 := Ix (v 0) (v 1)
abbrev e123 := Ce 0 (v 4)
abbrev e95 := Ce 1 (v 4)
abbrev e157 := E2 (B.cons) e95 Xn
abbrev e171 := Ln (v 6)
abbrev e239 := E2 (B.cons) (Ce 1 (v 5)) Xn
abbrev e12 := Pi [([], Sk e25), ([], Ss 4 e106), ([], Sk e49), ([], Ss 5 e107), ([], Sk e49), ([], Ss 6 (E3 (Tr.setI) (v 0) (v 1) (E2 (B.cons) e123 e157))), ([], Sk (An e254 (Lt (v 3) e171))), ([], Ss 7 (E3 (Tr.setI) (v 6) (v 3) (E2 (B.cons) (Ce 0 (v 5)) e239)))]
abbrev e46 := Sb (v 2) (v 1)
abbrev e15 := E2 (B.ar (BinOp.quo) (.i64)) e46 (N 4)
abbrev e88 := Ln (v 1)
abbrev e16 := Sq (Leaf.int (.i64) e88)
abbrev e17 := Sb (v 6) (N 1)
abbrev e19 := E2 (B.ar (BinOp.xor) (.u64)) (v 0) (E2 (B.ar (BinOp.shl) (.u64)) (v 0) (N 13))
abbrev e20 := E2 (B.ar (BinOp.add) (.u64)) (E2 (B.ar (BinOp.mul) (.u64)) (v 2) (N 6364136223846793005)) (E1 (U.conv (.u64)) (v 3))
abbrev e21 := Le (N 0) (v 6)
abbrev e140 := Ln (v 15)
abbrev e119 := Ad (v 19) (N 1)
abbrev e22 := E2 (B.minus) e140 e119
abbrev e23 := Sq (Leaf.int (.i64) e46)
abbrev e24 := Sq (Leaf.int (.i64) (N 0))
abbrev e26 := An (Le (N 0) (v 2)) (Lt (v 2) e14)
abbrev e138 := mf mo (mf mo e5)
abbrev e28 := Hs (Hr (mt mo (mt mo (mt mo (mt mo (mt mo (mt mo (mt mo (mt mo (mt e124 e138)))))))))) e7
abbrev e99 := Pi [([], Sm 2 [])]
abbrev e29 := Pc (Lt (v 2) e14) Pk (Ps e99 (Px 0))
abbrev e30 := Jn [(0, [], Js 0 31), (7, [], Js 16 31), (26, [], Js 1 3), (27, [], SV.s e16), (28, [], J 10)] [(0, [], Or false 31 (v 0)), (1, [], Or false 3 (v 1)), (16, [], Or true 31 (v 11))] 11 1 17
abbrev e31 := Jn [(0, [], Js 0 31), (9, [], Js 14 31), (45, [], Js 1 3), (46, [], SV.s e16), (47, [], J 6)] [(0, [], Or false 31 (v 0)), (1, [], Or false 3 (v 1)), (14, [], Or true 31 (v 7))] 7 1 15
abbrev e32 := E2 (B.cons) (Xf) (E2 (B.cons) (Xf) (E2 (B.cons) (Xf) (E2 (B.cons) (Xf) (E2 (B.cons) (Xf) (E2 (B.cons) (Xf) (E2 (B.cons) (Xf) (E2 (B.cons) (Xf) (E2 (B.cons) (Xf) Xn))))))))
abbrev e34 := Pc e181 Pk (Ps (Pi [([], Sm 2 [v 2])]) (Px 0))
abbrev e292 := Pi [([], Sm 3 [v 3])]
abbrev e35 := Ps e292 (Px 0)
abbrev e109 := Ad (v 1) (N 1)
abbrev e36 := E2 (B.minus) e14 e109
abbrev e37 := Pi [([], Sk e25), ([], Ss 4 e106)]
abbrev e253 := Le (N 0) (v 8)
abbrev e302 := Ln (v 7)
abbrev e38 := An e253 (Lt (v 8) e302)
abbrev e85 := Sb (v 2) (N 1)
abbrev e262 := Sq (Leaf.int (.i64) e85)
abbrev e39 := Jn [(0, [], Js 0 44), (1, [], J 1), (4, [], SV.s e3), (12, [], J 8), (13, [], SV.s e262)] [(0, [], Or true 44 (v 7))] 8 1 1
abbrev e40 := Ow 0 44
abbrev e41 := Sq (Leaf.int (.i64) e140)
abbrev e42 := E2 (B.ar (BinOp.and) (.u64)) (v 7) (E2 (B.ar (BinOp.sub) (.u64)) (v 3) (N 1))
abbrev e43 := E2 (B.ar (BinOp.mul) (.i64)) e15 (N 2)
abbrev e44 := Ln (v 4)
abbrev e45 := Ce 1 (v 8)
abbrev e201 := mt mo e27
abbrev e47 := Hr (mt mo (mt (mf e124 mo) (mf e124 (mf mo e201))))
abbrev e48 := Pi [([], Sm 5 [v 5])]
abbrev e50 := Pi [([], Sm 3 [])]
abbrev e51 := Hz (Hz Hn)
abbrev e303 := Ln (v 5)
abbrev e52 := An e21 (Lt (v 6) e303)
abbrev e53 := Pz (Pr [Xf])
abbrev e54 := Jn [(0, [], Js 0 44), (1, [], J 1), (2, [], J 2), (3, [], SV.s e3), (9, [], J 6), (10, [], J 5)] [(0, [], Or true 44 (v 12))] 12 1 1
abbrev e55 := Jn [(0, [], Js 0 44), (1, [], J 1), (2, [], J 2), (3, [], SV.s e3), (9, [], J 6), (10, [], J 5)] [(0, [], Or true 44 (v 11))] 11 1 1
abbrev e56 := Ix (v 0) (v 2)
abbrev e57 := Jn [(0, [], Js 0 44), (1, [], J 1), (2, [], J 2), (3, [], SV.s e3), (9, [], J 6), (10, [], J 5)] [(0, [], Or true 44 (v 3))] 6 1 1
abbrev e58 := mt mo (mt mo (mt mo (mt mo (mt e5 (mf mo e138)))))
abbrev e59 := Sb (v 12) (N 1)
abbrev e60 := E2 (B.minus) e14 (v 1)
abbrev e61 := Pi [([], Sm 2 [Ad (v 2) (N 1)])]
abbrev e270 := mf e10 mo
abbrev e62 := Hr (mt (mf (mf e270 mo) (mt e270 mo)) (mt (mf e270 mo) (mt e270 (mt e10 (mt e170 e27)))))
abbrev e63 := Sq (Lb (Xt))
abbrev e64 := Jn [(0, [], Js 0 44), (1, [], J 1), (4, [], SV.s e3), (12, [], J 17), (13, [], J 18)] [(0, [], Or true 44 (v 14))] 18 1 1
abbrev e65 := Jn [(0, [], Js 0 44), (1, [], J 1), (4, [], SV.s e3), (12, [], J 17), (13, [], J 16)] [(0, [], Or true 44 (v 14))] 17 1 1
abbrev e66 := An (Le (N 0) (v 9)) (Lt (v 9) e302)
abbrev e67 := Lb (v 0)
abbrev e68 := Jn [(0, [], Js 0 44), (1, [], J 1), (4, [], SV.s e3), (11, [], J 11), (12, [], J 12)] [(0, [], Or true 44 (v 8))] 12 1 1
abbrev e69 := Jn [(0, [], Js 0 44), (1, [], J 1), (4, [], SV.s e3), (11, [], J 11), (12, [], J 10)] [(0, [], Or true 44 (v 8))] 11 1 1
abbrev e70 := Jn [(0, [], Js 0 44), (1, [], J 1), (4, [], SV.s e3), (12, [], J 8), (13, [], J 9)] [(0, [], Or true 44 (v 7))] 9 1 1
abbrev e71 := Jn [(0, [], Js 0 31), (3, [], Js 12 3), (4, [], J 2)] [(0, [], Or false 31 (v 0)), (12, [], Or true 3 (v 3))] 3 1 13
abbrev e72 := Jn [(0, [], Js 0 44), (1, [], J 1), (2, [], J 2), (3, [], SV.s e3), (8, [], J 4)] [(0, [], Or true 44 (v 5))] 5 1 1
abbrev e73 := Sb (v 13) (N 1)
abbrev e74 := Le (N 0) (v 12)
abbrev e75 := Ad (v 3) (v 10)
abbrev e76 := Pi [([], Sm 11 [v 11])]
abbrev e77 := E2 (B.cons) (Ce 0 (v 17)) (E2 (B.cons) (Ce 1 (v 17)) Xn)
abbrev e78 := E2 (B.cons) (Ce 0 (v 11)) (E2 (B.cons) (Ce 1 (v 11)) Xn)
abbrev e79 := E2 (B.cons) (Ce 0 (v 10)) (E2 (B.cons) (Ce 1 (v 10)) Xn)
abbrev e159 := Ad (v 3) (v 5)
abbrev e80 := An (Le (N 0) e159) (Lt e159 e44)
abbrev e81 := Pi [([], Sm 2 [v 4, Ad (v 3) (N 1)])]
abbrev e130 := Le (N 0) e17
abbrev e82 := An e130 (Lt e17 e303)
abbrev e216 := Ce 0 (v 7)
abbrev e183 := Ce 1 (v 7)
abbrev e83 := E2 (B.cons) e216 (E2 (B.cons) e183 Xn)
abbrev e84 := Pz (Pr [Xn, Xf])
abbrev e225 := Ps (Pi [([], Sm 1 [])]) (Px 0)
abbrev e86 := Pc e282 Pk e225
abbrev e145 := Pr [v 3]
abbrev e87 := Ps (Pi [([], Ss 3 (E3 (Tr.ite) (E2 (B.cmp (BinOp.geq)) (v 0) (v 1)) (Le (v 0) (v 2)) (Xf)))]) e145
abbrev e89 := mf (mf mo (mt mo mo)) e13
abbrev e90 := Jn [(0, [], Js 0 3), (1, [], J 1), (2, [], J 2), (6, [], J 4)] [(0, [], Or true 3 (v 5))] 5 1 1
abbrev e91 := Pi [([], Sm 1 [Ad (v 1) (N 1)])]
abbrev e92 := Le (N 0) (v 5)
abbrev e93 := mt mo (mt mo e1)
abbrev e94 := Ow 0 31
abbrev e276 := Ln (v 14)
abbrev e96 := An (Le (N 0) (v 17)) (Lt (v 17) e276)
abbrev e172 := Ln (v 12)
abbrev e97 := An (Le (N 0) (v 13)) (Lt (v 13) e172)
abbrev e235 := Le (N 0) (v 11)
abbrev e156 := Ln (v 8)
abbrev e98 := An e235 (Lt (v 11) e156)
abbrev e219 := Ln (v 3)
abbrev e101 := An e21 (Lt (v 6) e219)
abbrev e102 := Pi [([], Sm 2 [N 0])]
abbrev e103 := Jn [] [(0, [], Or true 44 (v 3))] 3 1 1
abbrev e104 := Sq (Leaf.mp 1)
abbrev e105 := Sq (Leaf.int (.i64) (Ix (v 1) (v 10)))
abbrev e227 := E3 (Tr.mget) (v 2) (v 8) (N 0)
abbrev e108 := E1 (U.not) (E2 (B.cmp (BinOp.gtr)) e227 (v 6))
abbrev e110 := E2 (B.ar (BinOp.xor) (.u64)) e19 (E2 (B.ar (BinOp.shr) (.u64)) e19 (N 7))
abbrev e111 := Sq (Leaf.int (.i64) (Sb (v 6) (v 5)))
abbrev e112 := Sq (Leaf.int (.i64) (Sb (v 2) (v 5)))
abbrev e113 := Sq (Leaf.int (.i64) (Ix (v 1) (v 6)))
abbrev e114 := Pz (Pr [N (-1)])
abbrev e115 := Ps (Pi [([], Sk (Xf))]) (Px 99999999)
abbrev e116 := Pi [([], Sm 3 [v 5, Ad (v 4) (N 1)])]
abbrev e117 := Hr (mt mo (mt (mf (mf e5 mo) mo) (mf (mf e5 mo) (mf e5 e268))))
abbrev e118 := N 4398046511104
abbrev e120 := Pz (Pi [])
abbrev e121 := Pi [([], Sm 4 [])]
abbrev e122 := Hs (Hr e1) (Hz Hn)
abbrev e125 := Pi [([], Sm 12 [v 12])]
abbrev e126 := E2 (B.sidx) (v 0) (v 1)
abbrev e127 := Sq (Lb (v 12))
abbrev e250 := Pi [([], Sc 12 [v 0] 1 1)]
abbrev e230 := E1 (U.not) (v 1)
abbrev e128 := Ps e250 (Pc e230 e84 Pk)
abbrev e129 := Pi [([], Sm 3 [Ad (v 3) (N 1)])]
abbrev e131 := E1 (U.slen) (v 0)
abbrev e283 := Le (N 0) e45
abbrev e132 := An e283 (Lt e45 (N 9))
abbrev e133 := Ad (v 1) (v 8)
abbrev e134 := Ad (v 1) (v 5)
abbrev e135 := Sq (Leaf.int (.i64) (Ln (v 2)))
abbrev e136 := Pi [([], Sm 4 [v 5])]
abbrev e137 := Pi [([], Sm 3 [N 0])]
abbrev e139 := N 17592186044416
abbrev e226 := Ln (v 11)
abbrev e141 := An e74 (Lt (v 12) e226)
abbrev e142 := Sq (Lb (v 8))
abbrev e143 := Sq (Leaf.sl 0 31 (N 0) (v 3))
abbrev e144 := Ps Pk (Pi [([], Sm 5 [v 2])])
abbrev e146 := E2 (B.cons) (Ce 0 (v 16)) (E2 (B.cons) (Ce 1 (v 16)) Xn)
abbrev e147 := E2 (B.cons) (Ce 0 (v 14)) (E2 (B.cons) (Ce 1 (v 14)) Xn)
abbrev e148 := Ce 1 (v 20)
abbrev e149 := An e18 (Lt (v 1) e276)
abbrev e150 := E2 (B.cons) (Ce 0 (v 9)) (E2 (B.cons) (Ce 1 (v 9)) Xn)
abbrev e151 := E2 (B.cons) (Ce 0 (v 6)) (E2 (B.cons) (Ce 1 (v 6)) Xn)
abbrev e152 := An e18 (Lt (v 1) e302)
abbrev e153 := Sq (Leaf.sl 0 44 (v 1) e60)
abbrev e154 := Pc e230 (Pz (Pr [Xf, Xf, Xf, Xf])) Pk
abbrev e155 := Pi [([], Sm 5 [v 3, v 4])]
abbrev e158 := Ce 0 (v 2)
abbrev e297 := mf e8 mo
abbrev e161 := mf (mf e297 mo) (mt e297 (mt e8 mo))
abbrev e162 := Pz (Pc (E2 (B.cmp (BinOp.neq)) e14 e88) e53 Pk)
abbrev e163 := Ad e9 (N 1)
abbrev e164 := Ad (v 3) e9
abbrev e165 := Sq (Leaf.pe 2 4 (N 0) 0)
abbrev e166 := Sq (Leaf.pe 1 4 (N 0) 0)
abbrev e167 := Sq (Lb (v 9))
abbrev e168 := Hs e4 (Hz Hn)
abbrev e169 := Hr (mt mo e1)
abbrev e173 := Lb (v 1)
abbrev e174 := E1 (U.not) (v 3)
abbrev e175 := E1 (U.conv (.u8)) (v 5)
abbrev e176 := E1 (U.conv (.u8)) (v 3)
abbrev e177 := An (Le (N 0) (v 18)) (Lt (v 18) e276)
abbrev e178 := An (Le (N 0) (v 15)) (Lt (v 15) e276)
abbrev e179 := Pz (Pr [Xt])
abbrev e180 := Pi [([], Sm 4 [v 7, v 8, Ad (v 6) (N 1)])]
abbrev e182 := Ce 2 (v 2)
abbrev e184 := Ce 1 (v 2)
abbrev e185 := Ce 0 (v 8)
abbrev e186 := An (Le (N 0) (v 4)) (Lt (v 4) e219)
abbrev e187 := Pi [([], Sm 4 [v 4])]
abbrev e188 := Pi [([], Sm 23 [v 25, Ad (v 24) (N 1)])]
abbrev e189 := Pi [([], Sm 1 [N 0])]
abbrev e190 := N 1442695040888963407
abbrev e192 := Jn [] [(0, [], Or true 44 (v 4))] 4 1 1
abbrev e193 := Jn [] [(0, [], Or false 3 (v 0))] 2 0 1
abbrev e194 := Sb (v 5) (N 1)
abbrev e195 := Lz (v 0)
abbrev e196 := E2 (B.ar (BinOp.mul) (.i64)) e15 (N 3)
abbrev e197 := E2 (B.ar (BinOp.mul) (.i64)) e15 (N 1)
abbrev e198 := Ce 1 (v 13)
abbrev e199 := Ce 0 (v 20)
abbrev e200 := An (Le (N 0) e59) (Lt e59 e226)
abbrev e202 := Pi [([], Sm 5 [v 7, Ad (v 6) (N 1)])]
abbrev e203 := Pi [([], Sm 3 [v 0, Ad (v 1) (N 1)])]
abbrev e204 := An e283 (Lt e45 e303)
abbrev e205 := Le (Ln (v 31)) e118
abbrev e206 := Sq (Lb (v 4))
abbrev e207 := Sq (Lb (v 3))
abbrev e208 := Pz (Pr [N 0])
abbrev e209 := Ps e48 (Px 2)
abbrev e210 := Pi [([], Sc 6 [v 0, N 0, N 0] 1 3)]
abbrev e211 := Ps Pk (Pi [([], Sm 3 [v 1, v 2])])
abbrev e212 := Ps Pk (Pi [([], Sm 1 [v 0, N 0])])
abbrev e213 := Ix (v 4) (E2 (B.plus) (v 1) (v 6))
abbrev e214 := E2 (B.cmp (BinOp.gtr)) (v 6) (v 1)
abbrev e215 := Ce 2 (v 4)
abbrev e217 := An (Le (N 0) (v 2)) (Lt (v 2) e88)
abbrev e218 := Pi [([], Sk e26)]
abbrev e220 := Lb (v 2)
abbrev e221 := E2 (B.cmp (BinOp.geq)) e46 (N 8)
abbrev e222 := E1 (U.not) (v 23)
abbrev e223 := Pz (Pc (Lt (v 4) (v 2)) Pk e35)
abbrev e224 := An (Le (N 0) e73) (Lt e73 e172)
abbrev e228 := E3 (Tr.ite) (v 12) (Xt) (v 13)
abbrev e229 := E1 (U.not) (v 4)
abbrev e231 := An (Le (N 0) e75) (Lt e75 e44)
abbrev e232 := Ce 2 (v 20)
abbrev e233 := N 8796093022208
abbrev e234 := Lt (v 23) (N 0)
abbrev e236 := Ix (v 14) (v 1)
abbrev e237 := Hs (Hs (Hr e58) e7) (Hr e93)
abbrev e238 := E2 (B.cons) (Exp.str []) Xn
abbrev e240 := An e130 (Lt e17 (Ln (v 9)))
abbrev e241 := Sq (Leaf.sl 6 31 e119 e22)
abbrev e242 := Sq (Leaf.sl 0 31 e109 e36)
abbrev e243 := Sq (Lb (v 14))
abbrev e244 := Sq (Lb (v 13))
abbrev e245 := Sq (Lb (v 11))
abbrev e246 := Sb (v 1) (N 1)
abbrev e247 := Pr [v 1]
abbrev e248 := Pi [([], Sm 2 [v 1, N 0])]
abbrev e249 := Pi [([], Sc 17 [v 0] 1 1)]
abbrev e251 := Pc e181 Pk (Ps e50 (Px 0))
abbrev e252 := Lz (v 2)
abbrev e255 := Le (N 0) (N 0)
abbrev e256 := Ix (v 7) (v 9)
abbrev e257 := Ix (v 7) (v 8)
abbrev e258 := Ix (v 7) (v 1)
abbrev e259 := Ix (v 5) (v 6)
abbrev e260 := Hc none e51 Hn
abbrev e261 := Pi [([], Sm 2 [Xn, N 0])]
abbrev e263 := Sq (Leaf.int (.i64) e36)
abbrev e264 := Sq (Leaf.int (.i64) e22)
abbrev e265 := Ad e164 (N 1)
abbrev e269 := mf e89 mo
abbrev e271 := Sq (Lu 3)
abbrev e272 := Pz (Pr [v 0, Ln (v 0)])
abbrev e273 := Pi [([], Sm 30 [v 31])]
abbrev e274 := Pi [([], Sm 25 [v 26])]
abbrev e275 := Pi [([], Sm 23 [v 23])]
abbrev e277 := An e74 (Lt (v 12) e156)
abbrev e278 := Sq (Leaf.fn 63 [1, 3])
abbrev e279 := Sq (Leaf.fn 61 [2, 4])
abbrev e280 := Pi [([], Sm 9 [v 10])]
abbrev e281 := Lt (v 6) e60
abbrev e284 := Ix (v 5) e17
abbrev e285 := Hr (mt mo (mt mo e93))
abbrev e286 := E2 (B.minus) e44 (v 5)
abbrev e287 := E1 (U.conv (.i64)) e42
abbrev e288 := An e18 (Lt (v 1) e156)
abbrev e289 := Pi [([], Sm 9 [v 9])]
abbrev e290 := Pi [([], Sm 7 [v 7])]
abbrev e291 := Pi [([], Sm 5 [v 6])]
abbrev e293 := E2 (B.rep) (N 9) (Xf)
abbrev e294 := An e21 (Lt (v 6) e44)
abbrev e295 := An e18 (Lt (v 1) e44)
abbrev e296 := An e130 (Lt e17 e219)
abbrev e298 := Pr [v 7]
abbrev e299 := Pr [v 4]
abbrev e300 := Pr [v 2]
abbrev e301 := Lt (v 24) (Ln (v 2))
abbrev e304 := Ce 0 (v 13)
def s0 : Sig := ⟨98, [Sq (Lp 1 0)], [(0, Or false 5 (v 0)), (1, Ob true [Ow 0 5, Li 1, Lu 2])], 3, [I 2], [(1, Ob true [Ow 0 5, Li 0, Lu 1])], 3⟩
def s1 : Sig := ⟨53, [Sq (Lp 1 0), I 3], [(0, Or false 5 (v 0)), (1, Ob true [Ow 0 5, Li 1, Lu 2])], 4, [I 2], [(1, Ob true [Ow 0 5, Li 0, Lu 1])], 3⟩
def s2 : Sig := ⟨54, [Sq (Lp 1 0), I 3], [(0, Or false 5 (v 0)), (1, Ob true [Ow 0 5, Li 1, Lu 2])], 4, [Sq e220], [(1, Ob true [Ow 0 5, Li 0, Lu 1])], 3⟩
def s3 : Sig := ⟨113, [Sq (Lp 1 0), Sq (Ow 2 9)], [(0, Or false 5 (v 0)), (1, Ob true [Ow 0 5, Li 1, Lu 2]), (2, Or false 9 (v 3))], 4, [Sq e252], [(1, Ob true [Ow 0 5, Li 0, Lu 1])], 3⟩
def s4 : Sig := ⟨82, [Sq (Lp 1 0)], [(0, Or false 5 (v 0)), (1, Ob true [Ow 0 5, Li 1, Lu 2])], 3, [Sq e252], [(1, Ob true [Ow 0 5, Li 0, Lu 1])], 3⟩
def s5 : Sig := ⟨50, [Sq e94, I 1], [(0, Or false 31 (v 0))], 2, [I 0], [], 1⟩
def s6 : Sig := ⟨51, [Sq (Lp 1 0)], [(0, Or false 5 (v 0)), (1, Ob true [Ow 0 5, Li 1, Lu 2])], 3, [Sq (Ow 19 31)], [(1, Ob true [Ow 0 5, Li 0, Lu 1]), (19, Or true 31 (v 2))], 3⟩
def s7 : Sig := ⟨45, [Sq (Ow 0 5)], [(0, Or false 5 (v 0))], 1, [Sq (Ow 2 31)], [(2, Or true 31 (v 0))], 1⟩
def s8 : Sig := ⟨8, [Sq (Ow 0 5)], [(0, Or false 5 (v 0))], 1, [Sq (Ow 1 31)], [(1, Or true 31 (v 0))], 1⟩
def s9 : Sig := ⟨74, [I 0, I 1, I 2], [], 3, [Sq e67], [], 1⟩
def s10 : Sig := ⟨149, [Sq e195, Sq (Lz (v 1))], [], 2, [Sq e195], [], 1⟩
def s11 : Sig := ⟨97, [Sq e195], [], 1, [Sq e67], [], 1⟩
def s12 : Sig := ⟨46, [Sq e94], [(0, Or false 31 (v 0))], 1, [Sq e67], [], 1⟩
def s13 : Sig := ⟨47, [Sq e94, I 1], [(0, Or false 31 (v 0))], 2, [I 0], [], 1⟩
def s14 : Sig := ⟨9, [Sq e94], [(0, Or false 31 (v 0))], 1, [Sq e67, Sq e173, Sq e220, Sq (Lb (v 3))], [], 4⟩
def s15 : Sig := ⟨76, [I 0, I 1, I 2], [], 3, [Sq e67], [], 1⟩
def s16 : Sig := ⟨85, [Sq e195], [], 1, [Sq e67], [], 1⟩
def s17 : Sig := ⟨48, [Sq e94], [(0, Or false 31 (v 0))], 1, [Sq e67], [], 1⟩
def s18 : Sig := ⟨49, [Sq e94, I 1, Sq e252], [(0, Or false 31 (v 0))], 3, [I 0, I 1], [], 2⟩
def s19 : Sig := ⟨10, [Sq e94], [(0, Or false 31 (v 0))], 1, [Sq e67, Sq e173, Sq e220, Sq (Lb (v 3))], [], 4⟩
def s20 : Sig := ⟨11, [Sq e94], [(0, Or false 31 (v 0))], 1, [Sq (Ow 7 44), Sq e173], [(7, Or true 44 (v 0))], 2⟩
def s21 : Sig := ⟨12, [Sq e94], [(0, Or false 31 (v 0))], 1, [Sq (Ow 7 44), Sq e173], [(7, Or true 44 (v 0))], 2⟩
def s22 : Sig := ⟨52, [Sq e94], [(0, Or false 31 (v 0))], 1, [Sq (Ow 7 3)], [(7, Or true 3 (v 0))], 1⟩
def s23 : Sig := ⟨13, [Sq (Ow 0 5)], [(0, Or false 5 (v 0))], 1, [Sq (Ow 2 31), Sq (Ow 6 3)], [(2, Or true 31 (v 0)), (6, Or true 3 (v 1))], 2⟩
def s24 : Sig := ⟨159, [Sq (Leaf.int (.u32) (v 0))], [], 1, [I 0], [], 1⟩
def s25 : Sig := ⟨160, [Sq (Lu 0)], [], 1, [I 0], [], 1⟩
def s26 : Sig := ⟨100, [Sq (Lu 0)], [], 1, [I 0], [], 1⟩
def s27 : Sig := ⟨214, [I 0], [], 1, [Sq e67], [], 1⟩
def s28 : Sig := ⟨156, [I 0, I 1], [], 2, [Sq e67], [], 1⟩
def s29 : Sig := ⟨150, [Sq (Ow 0 3), I 1, I 2], [(0, Or true 3 (v 0))], 3, [], [(0, Or true 3 (v 0))], 1⟩
def s30 : Sig := ⟨99, [Sq (Ow 0 3), I 1, I 2, I 3], [(0, Or true 3 (v 0))], 4, [], [(0, Or true 3 (v 0))], 1⟩
def s31 : Sig := ⟨55, [Sq (Ow 0 3)], [(0, Or true 3 (v 0))], 1, [], [(0, Or true 3 (v 0))], 1⟩
def s32 : Sig := ⟨57, [Sq e94], [(0, Or false 31 (v 0))], 1, [Sq (Ow 6 3)], [(6, Or true 3 (v 0))], 1⟩
def s33 : Sig := ⟨56, [Sq (Ow 0 3), Sq (Ow 1 3)], [(0, Or false 3 (v 0)), (1, Or false 3 (v 1))], 2, [Sq e67], [], 1⟩
def s34 : Sig := ⟨14, [Sq e94, Sq (Ow 1 3)], [(0, Or false 31 (v 0)), (1, Or false 3 (v 1))], 2, [Sq (Ow 12 31), Sq e173], [(12, Or true 31 (v 0))], 2⟩
def s35 : Sig := ⟨58, [Sq (Ow 0 3), I 1], [(0, Or false 3 (v 0))], 2, [Sq e67], [], 1⟩
def s36 : Sig := ⟨15, [Sq e94, Sq (Ow 1 3)], [(0, Or false 31 (v 0)), (1, Or false 3 (v 1))], 2, [Sq (Ow 10 31), Sq e173], [(10, Or true 31 (v 0))], 2⟩
def s37 : Sig := ⟨16, [Sq e94, Sq (Ow 1 31)], [(0, Or false 31 (v 0)), (1, Or false 31 (v 1))], 2, [Sq e67], [], 1⟩
def s38 : Sig := ⟨164, [I 0, I 1], [], 2, [I 0], [], 1⟩
def s39 : Sig := ⟨163, [Sq (Ow 0 3)], [(0, Or false 3 (v 0))], 1, [I 0], [], 1⟩
def s40 : Sig := ⟨162, [S1.agg [Li 0, Li 1], S1.agg [Li 2, Li 3]], [], 4, [I 0], [], 1⟩
def s41 : Sig := ⟨244, [Sq e40, I 1, I 2, Sq (Leaf.fn 162 [])], [(0, Or true 44 (v 0))], 3, [], [(0, Or true 44 (v 0))], 1⟩
def s42 : Sig := ⟨285, [Sq e40, I 1, I 2, I 3, Sq (Leaf.fn 162 [])], [(0, Or true 44 (v 0))], 4, [], [(0, Or true 44 (v 0))], 1⟩
def s43 : Sig := ⟨245, [Sq e40, I 1, I 2, Sq (Leaf.fn 162 [])], [(0, Or true 44 (v 0))], 3, [], [(0, Or true 44 (v 0))], 1⟩
def s44 : Sig := ⟨210, [I 0], [], 1, [Sq (Lu 0)], [], 1⟩
def s45 : Sig := ⟨211, [Sq (Lp 0 0)], [(0, Ob true [Lu 0])], 1, [Sq (Lu 0)], [(0, Ob true [Lu 0])], 1⟩
def s46 : Sig := ⟨246, [Sq e40, I 1, I 2, Sq (Leaf.fn 162 [])], [(0, Or true 44 (v 0))], 3, [], [(0, Or true 44 (v 0))], 1⟩
def s47 : Sig := ⟨310, [Sq e40, I 1, I 2, Sq (Lp 1 0), Sq (Leaf.fn 162 [])], [(0, Or false 44 (v 0)), (1, Ob true [Li 3])], 4, [I 1, I 2], [(1, Ob true [Li 0])], 3⟩
def s48 : Sig := ⟨287, [Sq e40, I 1, I 2, I 3, Sq (Lp 1 0), Sq (Leaf.fn 162 [])], [(0, Or false 44 (v 0)), (1, Ob true [Li 4])], 5, [I 1], [(1, Ob true [Li 0])], 2⟩
def s49 : Sig := ⟨286, [Sq e40, I 1, Sq (Lp 1 0), Sq (Leaf.fn 162 [])], [(0, Or false 44 (v 0)), (1, Ob true [Li 2])], 3, [I 1], [(1, Ob true [Li 0])], 2⟩
def s50 : Sig := ⟨247, [Sq e40, I 1, I 2, Sq (Leaf.fn 162 [])], [(0, Or false 44 (v 0))], 3, [I 0, I 1], [], 2⟩
def s51 : Sig := ⟨248, [Sq e40, I 1, I 2, Sq (Leaf.fn 162 [])], [(0, Or true 44 (v 0))], 3, [], [(0, Or true 44 (v 0))], 1⟩
def s52 : Sig := ⟨249, [Sq e40, I 1, I 2, Sq (Leaf.fn 162 [])], [(0, Or true 44 (v 0))], 3, [Sq e173], [(0, Or true 44 (v 0))], 2⟩
def s53 : Sig := ⟨250, [Sq e40, I 1, I 2, I 3, Sq (Leaf.fn 162 [])], [(0, Or true 44 (v 0))], 4, [I 1], [(0, Or true 44 (v 0))], 2⟩
def s54 : Sig := ⟨251, [Sq e40, I 1, I 2, I 3, Sq (Leaf.fn 162 [])], [(0, Or true 44 (v 0))], 4, [I 1, Sq e220], [(0, Or true 44 (v 0))], 3⟩
def s55 : Sig := ⟨215, [Sq e40, I 1, I 2, I 3, Sq (Leaf.fn 162 [])], [(0, Or true 44 (v 0))], 4, [], [(0, Or true 44 (v 0))], 1⟩
def s56 : Sig := ⟨215, [Sq e40, I 1, I 2, I 3, Sq (Leaf.fn 162 [])], [(0, Or true 44 (v 0))], 4, [], [(0, Or true 44 (v 0))], 1⟩
def s57 : Sig := ⟨215, [Sq e40, I 1, I 2, I 3, Sq (Leaf.fn 162 [])], [(0, Or true 44 (v 0))], 4, [], [(0, Or true 44 (v 0))], 1⟩
def s58 : Sig := ⟨215, [Sq e40, I 1, I 2, I 3, Sq (Leaf.fn 162 [])], [(0, Or true 44 (v 0))], 4, [], [(0, Or true 44 (v 0))], 1⟩
def s59 : Sig := ⟨215, [Sq e40, I 1, I 2, I 3, Sq (Leaf.fn 162 [])], [(0, Or true 44 (v 0))], 4, [], [(0, Or true 44 (v 0))], 1⟩
def s60 : Sig := ⟨215, [Sq e40, I 1, I 2, I 3, Sq (Leaf.fn 162 [])], [(0, Or true 44 (v 0))], 4, [], [(0, Or true 44 (v 0))], 1⟩
def s61 : Sig := ⟨215, [Sq e40, I 1, I 2, I 3, Sq (Leaf.fn 162 [])], [(0, Or true 44 (v 0))], 4, [], [(0, Or true 44 (v 0))], 1⟩
def s62 : Sig := ⟨215, [Sq e40, I 1, I 2, I 3, Sq (Leaf.fn 162 [])], [(0, Or true 44 (v 0))], 4, [], [(0, Or true 44 (v 0))], 1⟩
def s63 : Sig := ⟨215, [Sq e40, I 1, I 2, I 3, Sq (Leaf.fn 162 [])], [(0, Or true 44 (v 0))], 4, [], [(0, Or true 44 (v 0))], 1⟩
def s64 : Sig := ⟨215, [Sq e40, I 1, I 2, I 3, Sq (Leaf.fn 162 [])], [(0, Or true 44 (v 0))], 4, [], [(0, Or true 44 (v 0))], 1⟩
def s65 : Sig := ⟨161, [Sq e40, Sq (Leaf.fn 162 [])], [(0, Or true 44 (v 0))], 1, [], [(0, Or true 44 (v 0))], 1⟩
def s66 : Sig := ⟨165, [Sq e40], [(0, Or true 44 (v 0))], 1, [Sq (Leaf.sl 0 44 (N 0) (v 1))], [(0, Or true 44 (v 0))], 2⟩
def s67 : Sig := ⟨101, [Sq e40], [(0, Or true 44 (v 0))], 1, [Sq (Leaf.sl 0 44 (N 0) (v 1))], [(0, Or true 44 (v 0))], 2⟩
def s68 : Sig := ⟨59, [Sq e94], [(0, Or false 31 (v 0))], 1, [Sq (Leaf.sl 8 44 (N 0) (v 1))], [(8, Or true 44 (v 0))], 2⟩
def s69 : Sig := ⟨103, [Sq (Ow 0 3), I 1], [(0, Or false 3 (v 0))], 2, [I 0], [], 1⟩
def s70 : Sig := ⟨64, [Sq (Ow 0 3), I 1], [(0, Or false 3 (v 0))], 2, [Sq e67], [], 1⟩
def s71 : Sig := ⟨63, [S1.agg [Li 0, Li 1], Sq (Lp 0 0), Sq (Lp 2 0)], [(0, Ob false [Li 2]), (1, Or false 3 (v 3)), (2, Ob false [Ow 1 3])], 4, [Sq e67], [], 1⟩
def s72 : Sig := ⟨102, [Sq e40, Sq (Leaf.fn 63 [1, 3])], [(0, Or false 44 (v 0)), (1, Ob false [Li 1]), (2, Or false 3 (v 2)), (3, Ob false [Ow 2 3])], 3, [I 0], [], 1⟩
def s73 : Sig := ⟨62, [Sq e40, Sq (Leaf.fn 63 [1, 3])], [(0, Or false 44 (v 0)), (1, Ob false [Li 1]), (2, Or false 3 (v 2)), (3, Ob false [Ow 2 3])], 3, [Sq e67], [], 1⟩
def s74 : Sig := ⟨61, [I 0, Sq (Lp 1 0), Sq (Lp 3 0)], [(0, Or false 44 (v 1)), (1, Ob false [Ow 0 44]), (2, Or false 3 (v 2)), (3, Ob false [Ow 2 3])], 3, [Sq e67], [], 1⟩
def s75 : Sig := ⟨60, [Sq (Ow 0 3), Sq (Leaf.fn 61 [2, 4])], [(0, Or false 3 (v 0)), (1, Or false 44 (v 1)), (2, Ob false [Ow 1 44]), (3, Or false 3 (v 2)), (4, Ob false [Ow 3 3])], 3, [I 0], [], 1⟩
def s76 : Sig := ⟨65, [Sq (Ow 0 3), I 1, I 2], [(0, Or true 3 (v 0))], 3, [Sq (Ow 1 3)], [(1, Or true 3 (v 0))], 1⟩
def s77 : Sig := ⟨17, [Sq e94], [(0, Or false 31 (v 0))], 1, [Sq (Ow 11 3), Sq e173], [(11, Or true 3 (v 0))], 2⟩
def s78 : Sig := ⟨3, [Sq (Ow 0 5), Sq (Ow 1 5)], [(0, Or false 5 (v 0)), (1, Or false 5 (v 1))], 2, [Sq e67], [], 1⟩
def sigs : List Sig := [s0, s1, s2, s3, s4, s5, s6, s7, s8, s9, s10, s11, s12, s13, s14, s15, s16, s17, s18, s19, s20, s21, s22, s23, s24, s25, s26, s27, s28, s29, s30, s31, s32, s33, s34, s35, s36, s37, s38, s39, s40, s41, s42, s43, s44, s45, s46, s47, s48, s49, s50, s51, s52, s53, s54, s55, s56, s57, s58, s59, s60, s61, s62, s63, s64, s65, s66, s67, s68, s69, s70, s71, s72, s73, s74, s75, s76, s77, s78]
abbrev Qi (n : Nat) (p : PI) : Prop := Inst Go.Proofs.Tryz.prog tab sigs n p
def h0 : Hint := Hz (Hz (Hs (Hs e117 (Hc (some (Jn [(0, [], Jp 1 0), (3, [], J 3)] [(0, [], Or false 5 (v 0)), (1, [], Ob true [Ow 0 5, Li 1, Lu 2])] 3 1 2)) (Hr (mt mo (mt (mf (mf e124 mo) mo) (mf (mf e124 mo) (mf e124 (mf mo (mt mo e201))))))) Hn)) (Hz (Hz (Hs (Hs e117 e100) (Hz Hn))))))
def p0 : PI := Pz (Pz (Ps (Pz (Pc e282 (Ps (Pi [([], Sk e49)]) (Pi [([], Sm 3 [E1 (U.conv (.i64)) e107])])) (Ps Pk e137))) (Pz (Pz (Ps (Pz (Pc (Le e109 e14) (Pz (Pr [Ad (v 1) (N 1), E2 (B.ar (BinOp.add) (.u64)) e20 e190, v 3])) Pk)) (Pz (Pr [Ad (v 1) (N 1), E2 (B.ar (BinOp.add) (.u64)) e20 e190, E1 (U.conv (.i64)) (E2 (B.ar (BinOp.and) (.u64)) (E2 (B.ar (BinOp.shr) (.u64)) (E2 (B.ar (BinOp.add) (.u64)) e20 e190) (N 40)) (N 255))])))))))
theorem i0 : Qi 0 p0 := zab (S := s0) (no0 := 2) (h := h0) tabOk (by kernel_rfl) Go.Proofs.Tryz.func98 rfl (by kernel_rfl) (by kernel_rfl)
def h1 : Hint := Hz (Hs e4 (Hz (Hs (Hz (Hc (some (Jn [(1, [], J 3), (5, [], J 9)] [(0, [], Or false 5 (v 0)), (1, [], Ob true [Ow 0 5, Li 7, Lu 8])] 7 3 2)) Hn Hn)) (Hz Hn))))
def p1 : PI := Pz (Ps (Pz (Pc (Le (v 3) (N 1)) (Pz (Pr [v 1, v 2, N 0])) Pk)) (Ps (Pi [([], Sc 0 [v 0, v 1, v 2] 4 3)]) (Ps (Pz (Pc (E2 (B.cmp (BinOp.gtr)) (v 3) (N 200)) (Ps (Pi [([], Sc 0 [v 0, v 4, v 5] 7 3)]) (Pi [([], Sm 7 [v 7, v 8, Ad (E2 (B.ar (BinOp.mul) (.i64)) (v 6) (N 256)) (v 9)])])) (Ps Pk (Pi [([], Sm 7 [v 4, v 5, v 6])])))) (Ps (Pi [([], Sk (E2 (B.cmp (BinOp.neq)) (v 3) (N 0)))]) (Pr [v 7, v 8, E2 (B.ar (BinOp.rem) (.i64)) (v 9) (v 3)])))))
theorem i1 : Qi 1 p1 := zab (S := s1) (no0 := 2) (h := h1) tabOk (by kernel_rfl) Go.Proofs.Tryz.func53 rfl (by kernel_rfl) (by kernel_rfl)
def h2 : Hint := Hz (Hz Hn)
def p2 : PI := Pz (Ps (Pi [([], Sc 1 [v 0, v 1, v 2, v 3] 4 3)]) (Pr [v 4, v 5, Ee (v 6) (N 0)]))
theorem i2 : Qi 2 p2 := zab (S := s2) (no0 := 2) (h := h2) tabOk (by kernel_rfl) Go.Proofs.Tryz.func54 rfl (by kernel_rfl) (by kernel_rfl)
def h3 : Hint := Hz (Hz Hn)
def p3 : PI := Pz (Ps (Pi [([], Sc 1 [v 0, v 1, v 2, Ln (v 3)] 4 3), ([], Sk e101)]) (Pr [v 4, v 5, Ix (v 3) (v 6)]))
theorem i3 : Qi 3 p3 := zab (S := s3) (no0 := 3) (h := h3) tabOk (by kernel_rfl) Go.Proofs.Tryz.func113 rfl (by kernel_rfl) (by kernel_rfl)
def h4 : Hint := Hz e168
def p4 : PI := Pz (Ps (Ps (Pi [([], Sc 2 [v 0, v 1, v 2, N 60] 3 3)]) (Pc (v 5) (Ps (Pi [([], Ss 6 (E2 (B.cons) (Exp.str []) (E2 (B.cons) (Exp.str [65]) (E2 (B.cons) (Exp.str [49, 50, 51, 52, 53, 54, 55, 56, 57]) Xn)))), ([], Sc 3 [v 0, v 3, v 4, v 6] 7 3)]) (Pr [v 7, v 8, v 9])) Pk)) (Ps (Pi [([], Ss 6 (E2 (B.cons) (Exp.str [97]) (E2 (B.cons) (Exp.str [98]) (E2 (B.cons) (Exp.str [99]) (E2 (B.cons) (Exp.str [100]) Xn))))), ([], Sc 3 [v 0, v 3, v 4, v 6] 7 3)]) (Pr [v 7, v 8, v 9])))
theorem i4 : Qi 4 p4 := zab (S := s4) (no0 := 2) (h := h4) tabOk (by kernel_rfl) Go.Proofs.Tryz.func82 rfl (by kernel_rfl) (by kernel_rfl)
def h5 : Hint := Hz (Hs (Hz (Hb (Jn [] [(0, [], Or false 31 (v 0))] 2 0 2) (Hl (Jn [(1, [], J 1), (7, [], Js 0 31), (8, [], SV.s e2), (9, [], J 2)] [(0, [], Or false 31 (v 0))] 2 1 2) (Hz (Hs e7 (Hs (Hb (Jn [(1, [], J 1), (7, [], Js 0 31), (8, [], SV.s e2), (9, [], J 2)] [(0, [], Or false 31 (v 0))] 3 0 3) (Hz e4)) Hn)))))) (Hz Hn))
def p5 : PI := Pz (Ps (Pz (Pb 0 (Ps e102 (Pl (Ps (Pz (Ps e29 (Ps (Pb 1 (Ps (Ps (Pi [([], Sk e26), ([], Ss 3 e56)]) (Ps (Pi [([], Ss 4 (E3 (Tr.ite) (Ee (Ce 1 (v 3)) (v 1)) (Ee (Ce 0 (v 3)) (N 3)) (Xf)))]) (Pc (v 4) (Pz e300) Pk))) e50)) (Pi [])))) e61))))) e114)
theorem i5 : Qi 5 p5 := zab (S := s5) (no0 := 1) (h := h5) tabOk (by kernel_rfl) Go.Proofs.Tryz.func50 rfl (by kernel_rfl) (by kernel_rfl)
def h6 : Hint := Hz (Hz (Hz (Hz (Hs (Hz (Hc (some (Jn [(0, [], Jp 1 0), (3, [], SV.s (Sq (Leaf.nil))), (4, [], SV.s e11), (5, [], J 12)] [(0, [], Or false 5 (v 0)), (1, [], Ob true [Ow 0 5, Li 9, Lu 10])] 12 1 2)) Hn Hn)) (Hs (Hb (Jn [(0, [], Jp 1 0), (3, [], Js 6 31), (4, [], SV.s e11)] [(0, [], Or false 5 (v 0)), (1, [], Ob true [Ow 0 5, Li 13, Lu 14]), (6, [], Or true 31 (v 15))] 13 3 7) (Hl (Jn [(0, [], Jp 1 0), (3, [], Js 6 31), (4, [], SV.s e11), (5, [], J 16)] [(0, [], Or false 5 (v 0)), (1, [], Ob true [Ow 0 5, Li 13, Lu 14]), (6, [], Or true 31 (v 15))] 13 4 7) (Hs (Hz e7) (Hs (Hb (Jn [(0, [], Jp 1 0), (3, [], Js 9 31), (4, [], SV.s e11), (5, [], J 16)] [(0, [], Or false 5 (v 0)), (1, [], Ob true [Ow 0 5, Li 17, Lu 18]), (9, [], Or true 31 (v 19))] 17 3 10) (Hz (Hs (Hz (Hc (some (Jn [(0, [], Jp 1 0), (3, [], Js 6 31), (4, [], SV.s e11), (5, [], J 16), (6, [], Jp 7 0)] [(0, [], Or false 5 (v 0)), (1, [], Ob true [Ow 0 5, Li 26, Lu 27]), (6, [], Or true 31 (v 15)), (7, [], Ob true [Leaf.int (.i64) (Ad (N 1) (v 19)), Leaf.int (.i64) (Ad (N 1) (v 22)), Lz (v 29)])] 29 1 8)) Hn Hn)) Hn))) Hn)))) (Hz (Hs (Hz (Hb (Jn [(0, [], Jp 1 0), (4, [], SV.s e11), (7, [], Js 15 31)] [(0, [], Or false 5 (v 0)), (1, [], Ob true [Ow 0 5, Li 16, Lu 17]), (15, [], Or true 31 (v 18))] 16 3 16) (Hl (Jn [(0, [], Jp 1 0), (3, [], Js 6 31), (4, [], SV.s e11), (7, [], Js 15 31), (42, [], Js 6 31), (43, [], SV.s e41), (44, [], J 19)] [(0, [], Or false 5 (v 0)), (1, [], Ob true [Ow 0 5, Li 16, Lu 17]), (6, [], Or true 31 (v 15)), (15, [], Or true 31 (v 18))] 16 4 16) (Hz (Hs e7 (Hs (Hb (Jn [(0, [], Jp 1 0), (3, [], Js 6 31), (4, [], SV.s e11), (7, [], Js 22 31), (42, [], Js 6 31), (43, [], SV.s e41), (44, [], J 19)] [(0, [], Or false 5 (v 0)), (1, [], Ob true [Ow 0 5, Li 20, Lu 21]), (6, [], Or true 31 (v 15)), (22, [], Or true 31 (v 22))] 20 3 23) (Hz (Hz (Hz (Hs (Hz (Hb (Jn [(0, [], Jp 1 0), (3, [], Js 6 31), (4, [], SV.s e11), (7, [], Js 18 31), (9, [], Jp 16 0), (10, [], SV.s (Sq (Lb (v 23)))), (42, [], Js 6 31), (43, [], SV.s e41), (44, [], J 19)] [(0, [], Or false 5 (v 0)), (1, [], Ob true [Ow 0 5, Li 16, Lu 17]), (6, [], Or true 31 (v 15)), (18, [], Or true 31 (v 22)), (16, [], Ob true [Leaf.int (.i64) e199, Leaf.int (.i64) e148, Lz e232])] 23 1 20) (Hl (Jn [(0, [], Jp 1 0), (3, [], Js 6 31), (4, [], SV.s e11), (7, [], Js 18 31), (9, [], Jp 16 0), (10, [], SV.s (Sq (Lb (v 23)))), (42, [], Js 6 31), (43, [], SV.s e41), (44, [], J 19), (56, [], SV.s e241), (57, [], SV.s e264), (58, [], J 24)] [(0, [], Or false 5 (v 0)), (1, [], Ob true [Ow 0 5, Li 16, Lu 17]), (6, [], Or true 31 (v 15)), (18, [], Or true 31 (v 22)), (16, [], Ob true [Leaf.int (.i64) e199, Leaf.int (.i64) e148, Lz e232])] 23 2 20) (Hz (Hs e7 (Hs (Hb (Jn [(0, [], Jp 1 0), (3, [], Js 6 31), (4, [], SV.s e11), (7, [], Js 18 31), (9, [], Jp 16 0), (10, [], SV.s (Sq (Lb (v 25)))), (42, [], Js 6 31), (43, [], SV.s e41), (44, [], J 19), (56, [], SV.s e241), (57, [], SV.s e264), (58, [], J 24)] [(0, [], Or false 5 (v 0)), (1, [], Ob true [Ow 0 5, Li 16, Lu 17]), (6, [], Or true 31 (v 15)), (18, [], Or true 31 (v 22)), (16, [], Ob true [Leaf.int (.i64) e199, Leaf.int (.i64) e148, Lz e232])] 25 1 21) (Hz Hn)) Hn)))))) (Hz (Hc (some (Jn [(0, [], Jp 1 0), (3, [], Js 6 31), (4, [], SV.s e11), (7, [], Js 22 31), (42, [], Js 6 31), (43, [], SV.s e41), (44, [], J 19)] [(0, [], Or false 5 (v 0)), (1, [], Ob true [Ow 0 5, Li 27, Lu 28]), (6, [], Or true 31 (v 15)), (22, [], Or true 31 (v 30))] 30 1 23)) Hn Hn))))))) Hn)))))) (Hs (Hz (Hb (Jn [(7, [], Js 19 31)] [(0, [], Or false 5 (v 0)), (1, [], Ob true [Ow 0 5, Li 19, Lu 20]), (19, [], Or true 31 (v 21))] 19 3 20) (Hl (Jn [(0, [], Jp 1 0), (4, [], SV.s e11), (7, [], Js 19 31), (13, [], J 22)] [(0, [], Or false 5 (v 0)), (1, [], Ob true [Ow 0 5, Li 19, Lu 20]), (19, [], Or true 31 (v 21))] 19 4 20) (Hs (Hz e7) (Hs (Hb (Jn [(0, [], Jp 1 0), (4, [], SV.s e11), (7, [], Js 22 31), (13, [], J 22)] [(0, [], Or false 5 (v 0)), (1, [], Ob true [Ow 0 5, Li 23, Lu 24]), (22, [], Or true 31 (v 25))] 23 3 23) (Hz (Hc (some (Jn [(0, [], Jp 1 0), (4, [], SV.s e11), (7, [], Js 22 31), (13, [], J 22)] [(0, [], Or false 5 (v 0)), (1, [], Ob true [Ow 0 5, Li 27, Lu 28]), (22, [], Or true 31 (v 30))] 30 1 23)) Hn Hn))) Hn))))) (Hz Hn)))))))))
def p6 : PI := Pz (Pz (Ps (Pi [([], Sc 1 [v 0, v 1, v 2, N 4] 3 3)]) (Ps (Pi [([], Sc 1 [v 0, v 3, v 4, N 14] 6 3)]) (Ps (Ps (Pi [([], Sc 2 [v 0, v 6, v 7, N 20] 9 3)]) (Pc (v 11) (Pz (Pi [([], Sm 12 [N 50])])) (Ps Pk (Pi [([], Sm 12 [v 8])])))) (Ps (Pb 0 (Ps (Pi [([], Sm 13 [v 9, v 10, Xn, v 12])]) (Pl (Ps (Ps (Pz (Pc (E2 (B.cmp (BinOp.gtr)) (v 16) (N 0)) Pk (Ps (Pi [([], Sm 13 [v 13, v 14, v 15])]) (Px 0)))) (Ps (Pb 1 (Ps (Ps (Pi [([], Sc 1 [v 0, v 13, v 14, N 2] 17 3), ([], Sc 1 [v 0, v 17, v 18, Ad (N 1) (v 5)] 20 3), ([], Sc 4 [v 0, v 20, v 21] 23 3)]) (Ps (Ps (Pi [([], Sc 2 [v 0, v 23, v 24, N 60] 26 3)]) (Pc (v 28) (Pz (Pi [([], Sm 29 [Exp.str []])])) (Ps Pk (Pi [([], Sm 29 [v 25])])))) (Pi [([], Ss 30 (E2 (B.cons) (E2 (B.cons) (Ad (N 1) (v 19)) (E2 (B.cons) (Ad (N 1) (v 22)) (E2 (B.cons) (v 29) Xn))) Xn)), ([], Ss 31 (E2 (B.cat) (v 15) (v 30))), ([], Sk e205)]))) (Pi [([], Sm 17 [v 26, v 27, v 31])]))) (Pi []))) (Pi [([], Sm 13 [v 17, v 18, v 19, Sb (v 16) (N 1)])]))))) (Pz (Ps (Pz (Pb 2 (Ps (Pi [([], Sm 16 [v 13, v 14, Xn, N 0])]) (Pl (Ps (Pz (Ps (Pc (Lt (v 19) e140) Pk (Ps (Pi [([], Sm 16 [v 16, v 17, v 18])]) (Px 2))) (Ps (Pb 3 (Ps (Ps (Pi [([], Sk (An (Le (N 0) (v 19)) (Lt (v 19) e140))), ([], Ss 20 (Ix (v 15) (v 19)))]) (Ps (Pi [([], Ss 21 (E2 (B.cons) (E2 (B.cons) e199 (E2 (B.cons) e148 (E2 (B.cons) e232 Xn))) Xn)), ([], Ss 22 (E2 (B.cat) (v 18) (v 21))), ([], Sk (Le (Ln (v 22)) e118))]) (Pz (Ps (Ps (Pi [([], Sk (An (Le (N 0) e119) (An (Le e119 e140) (Le e140 e140))))]) (Pb 4 (Ps (Pi [([], Sm 23 [Xf, N 0])]) (Pl (Ps (Pz (Ps (Pc (Lt (v 24) e22) Pk (Ps e275 (Px 4))) (Ps (Pb 5 (Ps (Ps (Pi [([], Sk (An (Le (N 0) (v 24)) (Lt (v 24) e22))), ([], Ss 25 (Ix (v 15) (E2 (B.plus) e119 (v 24))))]) (Pi [([], Ss 26 (E3 (Tr.ite) (v 23) (Xt) (Ee (Ce 1 (v 25)) e148)))])) e274)) (Pi [])))) e188))))) (Ps (Pi [([(E1 (U.not) (v 23), true)], Sc 2 [v 0, v 16, v 17, N 3] 24 3), ([], Ss 27 (E3 (Tr.ite) e222 (v 24) (v 16))), ([], Ss 28 (E3 (Tr.ite) e222 (v 25) (v 17))), ([], Ss 29 (E3 (Tr.ite) e222 (E1 (U.not) (v 26)) (Xf)))]) (Pc (v 29) (Ps (Pi [([], Ss 30 (E2 (B.cons) (E2 (B.cons) (N 3) (E2 (B.cons) e148 e238)) Xn)), ([], Ss 31 (E2 (B.cat) (v 22) (v 30))), ([], Sk e205)]) e273) (Ps Pk (Pi [([], Sm 30 [v 22])])))))))) (Pi [([], Sm 20 [v 27, v 28, v 30])]))) (Pi [])))) (Pi [([], Sm 16 [v 20, v 21, v 22, Ad (v 19) (N 1)])])))))) (Ps (Pz (Pb 6 (Ps (Pi [([], Sm 19 [v 16, v 17, v 18, N 1])]) (Pl (Ps (Ps (Pz (Pc (Le (v 22) (Ad (N 1) (v 5))) Pk (Ps (Pi [([], Sm 19 [v 19, v 20, v 21])]) (Px 6)))) (Ps (Pb 7 (Ps (Ps (Pi [([], Sc 5 [v 21, v 22] 23 1), ([(Lt (v 23) (N 0), true)], Sc 2 [v 0, v 19, v 20, N 40] 24 3), ([], Ss 27 (E3 (Tr.ite) e234 (v 24) (v 19))), ([], Ss 28 (E3 (Tr.ite) e234 (v 25) (v 20))), ([], Ss 29 (E3 (Tr.ite) e234 (E1 (U.not) (v 26)) (Xf)))]) (Pc (v 29) (Ps (Pi [([], Ss 30 (E2 (B.cons) (E2 (B.cons) (N 3) (E2 (B.cons) (v 22) e238)) Xn)), ([], Ss 31 (E2 (B.cat) (v 21) (v 30))), ([], Sk e205)]) e273) (Ps Pk (Pi [([], Sm 30 [v 21])])))) (Pi [([], Sm 23 [v 27, v 28, v 30])]))) (Pi []))) (Pi [([], Sm 19 [v 23, v 24, v 25, Ad (v 22) (N 1)])])))))) (Pz (Pr [v 19, v 20, v 21]))))))))))
theorem i6 : Qi 6 p6 := zab (S := s6) (no0 := 2) (h := h6) tabOk (by kernel_rfl) Go.Proofs.Tryz.func51 rfl (by kernel_rfl) (by kernel_rfl)
def h7 : Hint := Hz e51
def p7 : PI := Pz (Pz (Ps e210 e145))
theorem i7 : Qi 7 p7 := zab (S := s7) (no0 := 1) (h := h7) tabOk (by kernel_rfl) Go.Proofs.Tryz.func45 rfl (by kernel_rfl) (by kernel_rfl)
def h8 : Hint := Hz (Hz Hn)
def p8 : PI := Pz (Ps (Pi [([], Sc 7 [v 0] 1 1)]) e247)
theorem i8 : Qi 8 p8 := zab (S := s8) (no0 := 1) (h := h8) tabOk (by kernel_rfl) Go.Proofs.Tryz.func8 rfl (by kernel_rfl) (by kernel_rfl)
def h9 : Hint := Hz (Hz Hn)
def p9 : PI := Pz e87
theorem i9 : Qi 9 p9 := zab (S := s9) (no0 := 0) (h := h9) tabOk (by kernel_rfl) Go.Proofs.Tryz.func74 rfl (by kernel_rfl) (by kernel_rfl)
def p10 : PI := Ps (Pi [([], Sk (E1 (U.ascii) (v 1))), ([], Sk (Le e131 (N 1000)))]) (Pr [E2 (B.trim) (v 0) (v 1)])
theorem i10 : Qi 10 p10 := zit Go.Proofs.Tryz.lays160 (by kernel_rfl) (by kernel_rfl) (by kernel_rfl) rfl
def h11 : Hint := Hz (Hz Hn)
def p11 : PI := Pz (Ps (Pi [([], Ss 1 (E3 (Tr.ite) (E2 (B.cmp (BinOp.geq)) e131 (N 1)) (Le e131 (N 8)) (Xf))), ([(v 1, true)], Sc 10 [v 0, Exp.str [97, 98, 99, 100, 101, 102, 103, 104, 105, 106, 107, 108, 109, 110, 111, 112, 113, 114, 115, 116, 117, 118, 119, 120, 121, 122, 48, 49, 50, 51, 52, 53, 54, 55, 56, 57]] 2 1), ([], Ss 3 (E3 (Tr.ite) (v 1) (E2 (B.scmp (BinOp.eql)) (v 2) (Exp.str [])) (Xf)))]) e145)
theorem i11 : Qi 11 p11 := zab (S := s11) (no0 := 0) (h := h11) tabOk (by kernel_rfl) Go.Proofs.Tryz.func97 rfl (by kernel_rfl) (by kernel_rfl)
def h12 : Hint := Hz (Hz (Hz (Hs (Hz (Hb (Jn [(0, [], Js 0 31), (3, [], SV.s e166), (4, [], SV.s e165)] [(0, [], Or false 31 (v 0)), (1, [], Or true 4 (v 5)), (2, [], Or true 4 (v 6))] 5 2 4) (Hl (Jn [(0, [], Js 0 31), (3, [], SV.s e166), (4, [], SV.s e165), (9, [], Js 0 31), (10, [], SV.s e2), (11, [], J 7)] [(0, [], Or false 31 (v 0)), (1, [], Or true 4 (v 5)), (2, [], Or true 4 (v 6))] 5 3 4) (Hz (Hs e7 (Hs (Hb (Jn [(0, [], Js 0 31), (3, [], SV.s e166), (4, [], SV.s e165), (9, [], Js 0 31), (10, [], SV.s e2), (11, [], J 7)] [(0, [], Or false 31 (v 0)), (1, [], Or true 4 (v 8)), (2, [], Or true 4 (v 9))] 8 2 5) (Hz e168)) Hn)))))) (Hz Hn))))
def p12 : PI := Pz (Ps (Pi [([], Ss 1 e293), ([], Sk (Ee e88 (N 9))), ([], Ss 2 e32)]) (Ps (Pi [([], Ss 3 e293), ([], Sk (Ee e219 (N 9))), ([], Ss 4 e32)]) (Ps (Pz (Pb 0 (Ps (Pi [([], Sm 5 [v 2, v 4, N 0])]) (Pl (Ps (Pz (Ps (Pc (Lt (v 7) e14) Pk (Ps (Pi [([], Sm 5 [v 5, v 6])]) (Px 0))) (Ps (Pb 1 (Ps (Ps (Pi [([], Sk (An (Le (N 0) (v 7)) (Lt (v 7) e14))), ([], Ss 8 (Ix (v 0) (v 7)))]) (Ps (Ps (Pi [([], Sc 9 [Ce 0 (v 8), N 1, N 3] 9 1), ([(E1 (U.not) (v 9), false)], Sc 9 [Ce 1 (v 8), N 1, N 8] 10 1), ([], Ss 11 (E3 (Tr.ite) (E1 (U.not) (v 9)) (Xt) (E1 (U.not) (v 10)))), ([(v 11, false)], Sk e132), ([(v 11, false)], Sk e204), ([], Ss 12 (E3 (Tr.ite) (v 11) (Xt) (Ix (v 5) e45))), ([(v 12, false)], Ss 13 (E3 (Tr.ite) (Ee e185 (N 3)) (E2 (B.scmp (BinOp.neq)) (Ce 2 (v 8)) (Exp.str [])) (Xf))), ([], Ss 14 e228), ([(E2 (B.cmp (BinOp.neq)) e185 (N 3), true), (v 14, false)], Sc 11 [Ce 2 (v 8)] 15 1), ([(v 14, false)], Ss 16 (E3 (Tr.ite) (E2 (B.cmp (BinOp.neq)) e185 (N 3)) (E1 (U.not) (v 15)) (Xf))), ([], Ss 17 (E3 (Tr.ite) (v 14) (Xt) (v 16)))]) (Pc (v 17) e53 Pk)) (Ps (Pi [([], Sk e132), ([], Sk (An e283 (Lt e45 e171))), ([], Ss 18 (E3 (Tr.setI) (v 6) e45 (Xt)))]) (Pi [([], Sk e132), ([], Sk e204), ([], Ss 19 (E3 (Tr.setI) (v 5) e45 (Ee e185 (N 3))))])))) (Pi [([], Sm 8 [v 19, v 18])]))) (Pi [])))) (Pi [([], Sm 5 [v 8, v 9, Ad (v 7) (N 1)])])))))) (Ps (Pi [([(Le e14 (N 60), true)], Sk (Ee e171 (N 9))), ([(Le e14 (N 60), true)], Sk (Ee e303 (N 9))), ([], Ss 7 (E3 (Tr.ite) (Le e14 (N 60)) (An (E2 (B.bcmp (BinOp.eql)) (Ix (v 6) (N 0)) (Ix (v 5) (N 0))) (An (E2 (B.bcmp (BinOp.eql)) (Ix (v 6) (N 1)) (Ix (v 5) (N 1))) (An (E2 (B.bcmp (BinOp.eql)) (Ix (v 6) (N 2)) (Ix (v 5) (N 2))) (An (E2 (B.bcmp (BinOp.eql)) (Ix (v 6) (N 3)) (Ix (v 5) (N 3))) (An (E2 (B.bcmp (BinOp.eql)) (Ix (v 6) (N 4)) (Ix (v 5) (N 4))) (An (E2 (B.bcmp (BinOp.eql)) (Ix (v 6) (N 5)) (Ix (v 5) (N 5))) (An (E2 (B.bcmp (BinOp.eql)) (Ix (v 6) (N 6)) (Ix (v 5) (N 6))) (An (E2 (B.bcmp (BinOp.eql)) (Ix (v 6) (N 7)) (Ix (v 5) (N 7))) (E2 (B.bcmp (BinOp.eql)) (Ix (v 6) (N 8)) (Ix (v 5) (N 8))))))))))) (Xf)))]) e298))))
theorem i12 : Qi 12 p12 := zab (S := s12) (no0 := 1) (h := h12) tabOk (by kernel_rfl) Go.Proofs.Tryz.func46 rfl (by kernel_rfl) (by kernel_rfl)
def h13 : Hint := Hz (Hs (Hz (Hb (Jn [] [(0, [], Or false 31 (v 0))] 2 0 1) (Hl (Jn [(0, [], Js 0 31), (1, [], J 1), (5, [], J 2)] [(0, [], Or false 31 (v 0))] 2 1 1) (Hs (Hz e7) (Hs (Hb (Jn [(0, [], Js 0 31), (1, [], J 1), (5, [], J 2)] [(0, [], Or false 31 (v 0))] 3 0 1) (Hs (Hr (mt mo (mt mo (mt mo (mt mo (mt mo (mt mo (mt mo (mt mo (mt mo (mt mo (mt (mf e5 mo) (mf (mf mo (mf mo (mf mo e266))) e138))))))))))))) e100)) Hn))))) (Hz Hn))
def p13 : PI := Pz (Ps (Pz (Pb 0 (Ps (Pi [([], Sm 2 [Sb (v 1) (N 1)])]) (Pl (Ps (Ps (Pz (Pc (E2 (B.cmp (BinOp.geq)) (v 2) (N 0)) Pk (Ps e99 (Px 0)))) (Ps (Pb 1 (Ps (Ps (Pi [([], Sk e26), ([(Ee (Ce 0 e56) (N 2), true)], Sk e26), ([(Ee (Ce 0 e56) (N 2), true)], Sk e49), ([], Ss 3 (E3 (Tr.ite) (Ee (Ce 0 e56) (N 2)) (E2 (B.scmp (BinOp.eql)) (Ce 2 e56) (Ce 2 e107)) (Xf)))]) (Pc (v 3) (Ps e218 (Pr [Ce 1 e56])) Pk)) e50)) (Pi []))) (Pi [([], Sm 2 [Sb (v 2) (N 1)])])))))) e208)
theorem i13 : Qi 13 p13 := zab (S := s13) (no0 := 1) (h := h13) tabOk (by kernel_rfl) Go.Proofs.Tryz.func47 rfl (by kernel_rfl) (by kernel_rfl)
def h14 : Hint := Hz (Hs e4 (Hz (Hs (Hz (Hb (Jn [(0, [], Js 0 31), (6, [], SV.s e104)] [(0, [], Or false 31 (v 0)), (1, [], Obj.map (CK.int (.i64)) (CK.int (.i64)) (v 2))] 2 1 3) (Hl (Jn [(0, [], Js 0 31), (6, [], SV.s e104), (20, [], Js 0 31), (21, [], SV.s e2), (22, [], J 3)] [(0, [], Or false 31 (v 0)), (1, [], Obj.map (CK.int (.i64)) (CK.int (.i64)) (v 2))] 2 2 3) (Hz (Hs e7 (Hs (Hb (Jn [(0, [], Js 0 31), (6, [], SV.s e104), (20, [], Js 0 31), (21, [], SV.s e2), (22, [], J 3)] [(0, [], Or false 31 (v 0)), (1, [], Obj.map (CK.int (.i64)) (CK.int (.i64)) (v 4))] 4 1 4) (Hz (Hz (Hc (some (Jn [(0, [], Js 0 31), (6, [], SV.s e104), (20, [], Js 0 31), (21, [], SV.s e2), (22, [], J 3)] [(0, [], Or false 31 (v 0)), (1, [], Obj.map (CK.int (.i64)) (CK.int (.i64)) (v 5))] 5 1 4)) Hn Hn)))) Hn)))))) (Hz (Hs (Hz (Hb (Jn [(9, [], SV.s e207), (10, [], SV.s e206), (11, [], SV.s (Sq (Lb (v 5))))] [(0, [], Or false 31 (v 0))] 3 3 4) (Hl (Jn [(0, [], Js 0 31), (6, [], SV.s e104), (9, [], SV.s e207), (10, [], SV.s e206), (11, [], SV.s (Sq (Lb (v 5)))), (35, [], Js 0 31), (36, [], SV.s e2), (37, [], J 6)] [(0, [], Or false 31 (v 0)), (1, [], Obj.map (CK.int (.i64)) (CK.int (.i64)) (v 2))] 3 4 4) (Hz (Hs e7 (Hs (Hb (Jn [(0, [], Js 0 31), (6, [], SV.s e104), (9, [], SV.s (Sq (Lb (v 7)))), (10, [], SV.s e142), (11, [], SV.s e167), (35, [], Js 0 31), (36, [], SV.s e2), (37, [], J 6)] [(0, [], Or false 31 (v 0)), (1, [], Obj.map (CK.int (.i64)) (CK.int (.i64)) (v 2))] 7 3 5) (Hz (Hz (Hs (Hz e7) (Hz (Hz (Hz (Hc (some (Jn [(0, [], Js 0 31), (6, [], SV.s e104), (9, [], SV.s e127), (10, [], SV.s e244), (11, [], SV.s e245), (35, [], Js 0 31), (36, [], SV.s e2), (37, [], J 6)] [(0, [], Or false 31 (v 0)), (1, [], Obj.map (CK.int (.i64)) (CK.int (.i64)) (v 2))] 12 2 5)) (Hz Hn) Hn)))))))) Hn)))))) (Hz Hn))))))
def p14 : PI := Pz (Ps (Ps e250 e154) (Pz (Ps (Pz (Pb 0 (Ps e261 (Pl (Ps (Pz (Ps e34 (Ps (Pb 1 (Ps (Ps e37 (Pz (Pc (Ee e123 (N 3)) (Ps (Pi [([], Ss 5 (E3 (Tr.mset) (v 2) e95 (v 3)))]) e48) e144))) e136)) (Pi [])))) e81))))) (Pz (Ps (Pz (Pb 2 (Ps (Pi [([], Sm 3 [Xt, Xt, Xt, N 0])]) (Pl (Ps (Pz (Ps (Pc (Lt (v 6) e14) Pk (Ps (Pi [([], Sm 3 [v 3, v 4, v 5])]) (Px 2))) (Ps (Pb 3 (Ps (Ps (Pi [([], Sk (An e21 (Lt (v 6) e14))), ([], Ss 7 (Ix (v 0) (v 6)))]) (Ps (Pi [([], Sc 13 [v 0, v 6] 8 1)]) (Ps (Ps (Pi [([], Ss 9 (E3 (Tr.ite) (Ee e216 (N 3)) (Xt) (Ee (v 8) (N 0)))), ([], Ss 10 (E3 (Tr.ite) (v 9) (Xt) (Ee (v 8) e183)))]) (Pc (v 10) (Ps (Pi [([], Sm 7 [v 3, v 4, v 5])]) (Px 3)) Pk)) (Pz (Ps (Pi [([], Ss 11 (E3 (Tr.ite) (v 5) e108 (Xf)))]) (Pz (Pc (Ee e216 (N 1)) (Ps (Ps (Pi [([], Ss 12 (E3 (Tr.ite) (v 3) (Lt e227 (E3 (Tr.mget) (v 2) e183 (N 0))) (Xf)))]) (Pi [([], Ss 13 (E3 (Tr.ite) (v 4) e108 (Xf)))])) (Pi [([], Sm 12 [v 12, v 13])])) (Ps Pk (Pi [([], Sm 12 [v 3, v 4])]))))))))) (Pi [([], Sm 7 [v 12, v 13, v 11])]))) (Pi [])))) (Pi [([], Sm 3 [v 7, v 8, v 9, Ad (v 6) (N 1)])])))))) (Pz (Pr [v 3, v 4, v 5, Xt])))))))
theorem i14 : Qi 14 p14 := zab (S := s14) (no0 := 1) (h := h14) tabOk (by kernel_rfl) Go.Proofs.Tryz.func9 rfl (by kernel_rfl) (by kernel_rfl)
def h15 : Hint := Hz (Hz Hn)
def p15 : PI := Pz e87
theorem i15 : Qi 15 p15 := zab (S := s15) (no0 := 0) (h := h15) tabOk (by kernel_rfl) Go.Proofs.Tryz.func76 rfl (by kernel_rfl) (by kernel_rfl)
def h16 : Hint := Hz (Hs (Hz (Hb (Jn [(0, [], SV.s (Sq e195))] [] 1 0 0) (Hl (Jn [(0, [], SV.s (Sq e195)), (3, [], J 1)] [] 1 1 0) (Hs (Hz e7) (Hs (Hb (Jn [(0, [], SV.s (Sq e195)), (3, [], J 1)] [] 2 0 0) (Hz e4)) Hn))))) (Hz Hn))
def p16 : PI := Pz (Ps (Pz (Pb 0 (Ps e189 (Pl (Ps (Ps (Pz (Pc (Lt (v 1) e131) Pk e225)) (Ps (Pb 1 (Ps (Ps (Pi [([], Sk (An e18 (Lt (v 1) e131)))]) (Ps (Pi [([], Ss 2 (E3 (Tr.ite) (E2 (B.cmp (BinOp.geq)) e126 (N 97)) (Le e126 (N 122)) (Xf))), ([(v 2, false)], Ss 3 (E3 (Tr.ite) (E2 (B.cmp (BinOp.geq)) e126 (N 48)) (Le e126 (N 57)) (Xf))), ([], Ss 4 (E3 (Tr.ite) (v 2) (Xt) (v 3)))]) (Pc e229 e53 Pk))) e99)) (Pi []))) e91))))) (Ps (Pi [([], Sc 15 [E1 (U.slen) (v 0), N 1, N 8] 1 1)]) e247))
theorem i16 : Qi 16 p16 := zab (S := s16) (no0 := 0) (h := h16) tabOk (by kernel_rfl) Go.Proofs.Tryz.func85 rfl (by kernel_rfl) (by kernel_rfl)
def h17 : Hint := Hz (Hs e4 (Hs (Hz (Hb (Jn [] [(0, [], Or false 31 (v 0))] 1 0 3) (Hl (Jn [(0, [], Js 0 31), (12, [], Js 0 31), (13, [], SV.s e2), (14, [], J 1)] [(0, [], Or false 31 (v 0))] 1 1 3) (Hz (Hs e7 (Hs (Hb (Jn [(0, [], Js 0 31), (12, [], Js 0 31), (13, [], SV.s e2), (14, [], J 1)] [(0, [], Or false 31 (v 0))] 2 0 5) (Hz (Hs e4 (Hz (Hz (Hs (Hz (Hb (Jn [(0, [], Js 0 31), (4, [], Jp 3 0), (5, [], SV.s (Sq (Lb (v 10)))), (6, [], SV.s e245), (12, [], Js 0 31), (13, [], SV.s e2), (14, [], J 1)] [(0, [], Or false 31 (v 0)), (3, [], Ob true [Leaf.int (.i64) e158, Leaf.int (.i64) e184, Lz e182])] 10 2 5) (Hl (Jn [(0, [], Js 0 31), (4, [], Jp 3 0), (5, [], SV.s (Sq (Lb (v 10)))), (6, [], SV.s e245), (12, [], Js 0 31), (13, [], SV.s e2), (14, [], J 1), (52, [], SV.s e242), (53, [], SV.s e263), (54, [], J 12)] [(0, [], Or false 31 (v 0)), (3, [], Ob true [Leaf.int (.i64) e158, Leaf.int (.i64) e184, Lz e182])] 10 3 5) (Hz (Hs e7 (Hs (Hb (Jn [(0, [], Js 0 31), (4, [], Jp 3 0), (5, [], SV.s e244), (6, [], SV.s e243), (12, [], Js 0 31), (13, [], SV.s e2), (14, [], J 1), (52, [], SV.s e242), (53, [], SV.s e263), (54, [], J 12)] [(0, [], Or false 31 (v 0)), (3, [], Ob true [Leaf.int (.i64) e158, Leaf.int (.i64) e184, Lz e182])] 13 2 6) e51) Hn)))))) e4)))))) Hn)))))) (Hz Hn)))
def p17 : PI := Pz (Ps (Pz (Pc (E2 (B.cmp (BinOp.gtr)) e14 (N 60)) e53 Pk)) (Ps (Pz (Pb 0 (Ps e189 (Pl (Ps (Pz (Ps e86 (Ps (Pb 1 (Ps (Ps (Pi [([], Sk e49), ([], Ss 2 e107)]) (Ps (Ps (Pi [([], Sc 15 [Ce 0 (v 2), N 1, N 3] 3 1), ([(E1 (U.not) (v 3), false)], Sc 15 [Ce 1 (v 2), N 1, N 8] 4 1), ([], Ss 5 (E3 (Tr.ite) e174 (Xt) e229)), ([], Ss 6 (E3 (Tr.ite) (v 5) (Xt) (E2 (B.bcmp (BinOp.neq)) (Ee e158 (N 3)) (E2 (B.scmp (BinOp.eql)) e182 (Exp.str []))))), ([(E2 (B.scmp (BinOp.neq)) e182 (Exp.str []), true), (v 6, false)], Sc 16 [Ce 2 (v 2)] 7 1), ([(v 6, false)], Ss 8 (E3 (Tr.ite) (E2 (B.scmp (BinOp.neq)) e182 (Exp.str [])) (E1 (U.not) (v 7)) (Xf))), ([], Ss 9 (E3 (Tr.ite) (v 6) (Xt) (v 8)))]) (Pc (v 9) e53 Pk)) (Pz (Pz (Ps (Ps (Pi [([], Sk (An (Le (N 0) e109) (An (Le e109 e14) (Le e14 e14))))]) (Pb 2 (Ps (Pi [([], Sm 10 [Xf, Xf, N 0])]) (Pl (Ps (Pz (Ps (Pc (Lt (v 12) e36) Pk (Ps (Pi [([], Sm 10 [v 10, v 11])]) (Px 2))) (Ps (Pb 3 (Ps (Ps (Pi [([], Sk (An e74 (Lt (v 12) e36))), ([], Ss 13 (Ix (v 0) (E2 (B.plus) e109 (v 12))))]) (Ps (Pi [([], Ss 14 (E3 (Tr.ite) (v 10) (Xt) (Ee e198 e184)))]) (Pi [([(v 11, false)], Ss 15 (E3 (Tr.ite) (Ee e198 e184) (Ee e304 (N 3)) (Xf))), ([], Ss 16 (E3 (Tr.ite) (v 11) (Xt) (v 15)))]))) (Pi [([], Sm 13 [v 14, v 16])]))) (Pi [])))) (Pi [([], Sm 10 [v 13, v 14, Ad (v 12) (N 1)])])))))) (Ps (Pi [([], Ss 12 (E3 (Tr.ite) (Ee e158 (N 3)) (v 10) (Xf))), ([(v 12, false)], Ss 13 (E3 (Tr.ite) (E2 (B.cmp (BinOp.neq)) e158 (N 3)) (E1 (U.not) (v 11)) (Xf))), ([], Ss 14 e228)]) (Pc (v 14) e53 Pk))))))) e99)) (Pi [])))) e91))))) e179))
theorem i17 : Qi 17 p17 := zab (S := s17) (no0 := 1) (h := h17) tabOk (by kernel_rfl) Go.Proofs.Tryz.func48 rfl (by kernel_rfl) (by kernel_rfl)
def h18 : Hint := Hz (Hs (Hz (Hb (Jn [] [(0, [], Or false 31 (v 0))] 3 0 1) (Hl (Jn [(0, [], Js 0 31), (2, [], SV.s (Sq e252)), (8, [], J 3)] [(0, [], Or false 31 (v 0))] 3 1 1) (Hs (Hz e7) (Hs (Hb (Jn [(0, [], Js 0 31), (2, [], SV.s (Sq e252)), (8, [], J 3)] [(0, [], Or false 31 (v 0))] 4 0 1) e4) Hn))))) (Hz Hn))
def p18 : PI := Pz (Ps (Pz (Pb 0 (Ps (Pi [([], Sm 3 [Sb (v 1) (N 1)])]) (Pl (Ps (Ps (Pz (Pc (E2 (B.cmp (BinOp.geq)) (v 3) (N 0)) Pk (Ps e50 (Px 0)))) (Ps (Pb 1 (Ps (Ps (Pi [([], Sk e25), ([(Ee (Ce 0 e106) (N 2), true)], Sk e25), ([], Ss 4 (E3 (Tr.ite) (Ee (Ce 0 e106) (N 2)) (E2 (B.scmp (BinOp.eql)) (Ce 2 e106) (v 2)) (Xf)))]) (Pc (v 4) (Ps (Pi [([], Sk e25)]) (Pr [Ce 1 e106, v 3])) Pk)) e121)) (Pi []))) (Pi [([], Sm 3 [Sb (v 3) (N 1)])])))))) (Pz (Pr [N 0, N (-1)])))
theorem i18 : Qi 18 p18 := zab (S := s18) (no0 := 1) (h := h18) tabOk (by kernel_rfl) Go.Proofs.Tryz.func49 rfl (by kernel_rfl) (by kernel_rfl)
def h19 : Hint := Hz (Hs e4 (Hz (Hz (Hz (Hs (Hz (Hb (Jn [(6, [], SV.s (Sq e220)), (7, [], SV.s e207), (8, [], SV.s e206)] [(0, [], Or false 31 (v 0))] 2 3 2) (Hl (Jn [(0, [], Js 0 31), (6, [], SV.s (Sq e220)), (7, [], SV.s e207), (8, [], SV.s e206), (17, [], Js 0 31), (18, [], SV.s e2), (19, [], J 5)] [(0, [], Or false 31 (v 0))] 2 4 2) (Hz (Hs e7 (Hs (Hb (Jn [(0, [], Js 0 31), (6, [], SV.s (Sq (Lb (v 6)))), (7, [], SV.s (Sq (Lb (v 7)))), (8, [], SV.s e142), (17, [], Js 0 31), (18, [], SV.s e2), (19, [], J 5)] [(0, [], Or false 31 (v 0))] 6 3 3) (Hz (Hz (Hs (Hz e7) (Hz (Hz (Hz (Hc (some (Jn [(0, [], Js 0 31), (6, [], SV.s e244), (7, [], SV.s e243), (8, [], SV.s e127), (17, [], Js 0 31), (18, [], SV.s e2), (19, [], J 5)] [(0, [], Or false 31 (v 0))] 13 2 3)) (Hz (Hr (mt mo (mt mo (mt mo (mt mo (mt (mf mo e266) (mf mo e201)))))))) Hn)))))))) Hn)))))) (Hz Hn))))))
def p19 : PI := Pz (Ps (Ps e249 e154) (Pz (Pz (Pz (Ps (Pz (Pb 0 (Ps (Pi [([], Sm 2 [Xt, Xt, Xt, N 0])]) (Pl (Ps (Pz (Ps (Pc (Lt (v 5) e14) Pk (Ps (Pi [([], Sm 2 [v 2, v 3, v 4])]) (Px 0))) (Ps (Pb 1 (Ps (Ps (Pi [([], Sk (An e92 (Lt (v 5) e14))), ([], Ss 6 (Ix (v 0) (v 5)))]) (Ps (Pi [([], Sc 18 [v 0, v 5, Ce 2 (v 6)] 7 2)]) (Ps (Ps (Pi [([], Ss 9 (E3 (Tr.ite) (Ee (Ce 0 (v 6)) (N 3)) (Xt) (Ee (v 7) (N 0)))), ([], Ss 10 (E3 (Tr.ite) (v 9) (Xt) (Ee (v 7) (Ce 1 (v 6)))))]) (Pc (v 10) (Ps (Pi [([], Sm 6 [v 2, v 3, v 4])]) (Px 1)) Pk)) (Ps (Pi [([], Sc 5 [v 0, v 7] 11 1)]) (Ps (Pi [([], Ss 12 (E3 (Tr.ite) (v 4) (Lt (v 11) (v 5)) (Xf)))]) (Pz (Pc (Ee (Ce 0 (v 6)) (N 1)) (Ps (Ps (Pi [([], Ss 13 (E3 (Tr.ite) (v 3) (Lt (v 11) (v 5)) (Xf)))]) (Pi [([(v 2, true)], Sc 5 [v 0, v 7] 14 1), ([(v 2, true)], Sc 5 [v 0, Ce 1 (v 6)] 15 1), ([], Ss 16 (E3 (Tr.ite) (v 2) (Lt (v 14) (v 15)) (Xf)))])) (Pi [([], Sm 13 [v 16, v 13])])) (Ps Pk (Pi [([], Sm 13 [v 2, v 3])]))))))))) (Pi [([], Sm 6 [v 13, v 14, v 12])]))) (Pi [])))) (Pi [([], Sm 2 [v 6, v 7, v 8, Ad (v 5) (N 1)])])))))) (Pz (Pr [v 2, v 3, v 4, Xt])))))))
theorem i19 : Qi 19 p19 := zab (S := s19) (no0 := 1) (h := h19) tabOk (by kernel_rfl) Go.Proofs.Tryz.func10 rfl (by kernel_rfl) (by kernel_rfl)
def h20 : Hint := Hz (Hs e4 (Hz (Hs (Hz (Hb (Jn [(4, [], Js 6 44)] [(0, [], Or false 31 (v 0)), (6, [], Or true 44 (v 3))] 3 1 7) (Hl (Jn [(0, [], Js 0 31), (4, [], Js 6 44), (11, [], Js 0 31), (12, [], SV.s e2), (13, [], J 4)] [(0, [], Or false 31 (v 0)), (6, [], Or true 44 (v 3))] 3 2 7) (Hz (Hs e7 (Hs (Hb (Jn [(0, [], Js 0 31), (4, [], Js 10 44), (11, [], Js 0 31), (12, [], SV.s e2), (13, [], J 4)] [(0, [], Or false 31 (v 0)), (10, [], Or true 44 (v 5))] 5 1 11) (Hz (Hz (Hc (some (Jn [(0, [], Js 0 31), (4, [], Js 10 44), (11, [], Js 0 31), (12, [], SV.s e2), (13, [], J 4)] [(0, [], Or false 31 (v 0)), (10, [], Or true 44 (v 6))] 6 1 11)) (Hr (mt mo (mt mo (mt mo (mt e170 e201))))) Hn)))) Hn)))))) (Hz Hn))))
def p20 : PI := Pz (Ps e128 (Ps (Pi [([], Ss 2 Xn)]) (Ps (Pz (Pb 0 (Ps (Pi [([], Sm 3 [v 2, N 0])]) (Pl (Ps (Pz (Ps (Pc (Lt (v 4) e14) Pk e35) (Ps (Pb 1 (Ps (Ps (Pi [([], Sk (An (Le (N 0) (v 4)) (Lt (v 4) e14))), ([], Ss 5 (Ix (v 0) (v 4)))]) (Pz (Pc (Ee (Ce 0 (v 5)) (N 1)) (Ps (Pi [([], Sc 13 [v 0, v 4] 6 1), ([], Ss 7 (E2 (B.cons) (E2 (B.cons) (v 6) e239) Xn)), ([], Ss 8 (E2 (B.cat) (v 3) (v 7))), ([], Sk (Le e156 e233))]) (Pi [([], Sm 6 [v 8])])) (Ps Pk (Pi [([], Sm 6 [v 3])]))))) e291)) (Pi [])))) e116))))) (Pz (Pr [v 3, Xt])))))
theorem i20 : Qi 20 p20 := zab (S := s20) (no0 := 1) (h := h20) tabOk (by kernel_rfl) Go.Proofs.Tryz.func11 rfl (by kernel_rfl) (by kernel_rfl)
def h21 : Hint := Hz (Hs e4 (Hz (Hs (Hz (Hb (Jn [(4, [], Js 6 44)] [(0, [], Or false 31 (v 0)), (6, [], Or true 44 (v 2))] 2 1 7) (Hl (Jn [(0, [], Js 0 31), (4, [], Js 6 44), (12, [], Js 0 31), (13, [], SV.s e2), (14, [], J 3)] [(0, [], Or false 31 (v 0)), (6, [], Or true 44 (v 2))] 2 2 7) (Hz (Hs e7 (Hs (Hb (Jn [(0, [], Js 0 31), (4, [], Js 10 44), (12, [], Js 0 31), (13, [], SV.s e2), (14, [], J 3)] [(0, [], Or false 31 (v 0)), (10, [], Or true 44 (v 4))] 4 1 11) (Hz (Hz (Hc (some (Jn [(0, [], Js 0 31), (4, [], Js 10 44), (12, [], Js 0 31), (13, [], SV.s e2), (14, [], J 3)] [(0, [], Or false 31 (v 0)), (10, [], Or true 44 (v 5))] 5 1 11)) (Hz Hn) Hn)))) Hn)))))) (Hz Hn))))
def p21 : PI := Pz (Ps (Ps e249 (Pc e230 e84 Pk)) (Pz (Ps (Pz (Pb 0 (Ps e261 (Pl (Ps (Pz (Ps e34 (Ps (Pb 1 (Ps (Ps e37 (Pz (Pc (Ee e123 (N 1)) (Ps (Ps (Pi [([], Sc 18 [v 0, v 3, Ce 2 (v 4)] 5 2)]) (Pi [([], Ss 7 (E2 (B.cons) (E2 (B.cons) (v 5) e157) Xn)), ([], Ss 8 (E2 (B.cat) (v 2) (v 7))), ([], Sk (Le e156 e233))])) (Pi [([], Sm 5 [v 8])])) e144))) e136)) (Pi [])))) e81))))) (Pz (Pr [v 2, Xt])))))
theorem i21 : Qi 21 p21 := zab (S := s21) (no0 := 1) (h := h21) tabOk (by kernel_rfl) Go.Proofs.Tryz.func12 rfl (by kernel_rfl) (by kernel_rfl)
def h22 : Hint := Hz (Hz (Hs (Hz (Hb (Jn [(3, [], Js 7 3)] [(0, [], Or false 31 (v 0)), (7, [], Or true 3 (v 1))] 1 1 8) (Hl (Jn [(0, [], Js 0 31), (3, [], Js 7 3), (4, [], J 2)] [(0, [], Or false 31 (v 0)), (7, [], Or true 3 (v 1))] 1 2 8) (Hs (Hz e7) (Hs (Hb e71 (Hz (Hb e71 (Hl (Jn [(0, [], Js 0 31), (3, [], Js 7 3), (4, [], J 2), (11, [], Js 0 31), (12, [], SV.s e2), (13, [], J 3)] [(0, [], Or false 31 (v 0)), (7, [], Or true 3 (v 1))] 3 1 9) (Hz (Hs e7 (Hs (Hb (Jn [(0, [], Js 0 31), (3, [], Js 7 3), (4, [], J 2), (11, [], Js 0 31), (12, [], SV.s e2), (13, [], J 3)] [(0, [], Or false 31 (v 0)), (7, [], Or true 3 (v 1))] 4 0 10) (Hz e4)) Hn))))))) Hn))))) (Hz Hn)))
def p22 : PI := Pz (Pz (Ps (Pz (Pb 0 (Ps (Pi [([], Sm 1 [Xn, N 1])]) (Pl (Ps (Ps (Pz (Pc (Le (v 2) (N 8)) Pk (Ps (Pi [([], Sm 1 [v 1])]) (Px 0)))) (Ps (Pb 1 (Ps (Pz (Pb 2 (Ps e137 (Pl (Ps (Pz (Ps (Pc e181 Pk (Ps (Pi [([], Sm 3 [v 1])]) (Px 2))) (Ps (Pb 3 (Ps (Ps e37 (Pz (Pc (Ee e95 (v 2)) (Ps (Pi [([], Ss 5 (E2 (B.cons) (v 2) Xn)), ([], Ss 6 (E2 (B.cat) (v 1) (v 5))), ([], Sk (Le e171 e139))]) (Ps (Pi [([], Sm 3 [v 6])]) (Px 2))) Pk))) e121)) (Pi [])))) e129))))) e292)) (Pi []))) (Pi [([], Sm 1 [v 3, Ad (v 2) (N 1)])])))))) (Pz e247)))
theorem i22 : Qi 22 p22 := zab (S := s22) (no0 := 1) (h := h22) tabOk (by kernel_rfl) Go.Proofs.Tryz.func52 rfl (by kernel_rfl) (by kernel_rfl)
def h23 : Hint := Hz (Hz (Hz (Hz (Hs (Hz (Hb (Jn [(4, [], Jp 1 0), (5, [], Js 2 31), (6, [], Js 3 3)] [(0, [], Or false 5 (v 0)), (1, [], Ob true [Ow 0 5, Li 5, Lu 6]), (2, [], Or true 31 (v 3)), (3, [], Or true 3 (v 7))] 5 3 4) (Hl (Jn [(4, [], Jp 1 0), (5, [], Js 2 31), (6, [], Js 3 3), (7, [], J 8)] [(0, [], Or false 5 (v 0)), (1, [], Ob true [Ow 0 5, Li 5, Lu 6]), (2, [], Or true 31 (v 3)), (3, [], Or true 3 (v 7))] 5 4 4) (Hs (Hz e7) (Hs (Hb (Jn [(4, [], Jp 1 0), (5, [], Js 2 31), (6, [], Js 3 3), (7, [], J 8)] [(0, [], Or false 5 (v 0)), (1, [], Ob true [Ow 0 5, Li 9, Lu 10]), (2, [], Or true 31 (v 3)), (3, [], Or true 3 (v 11))] 9 3 4) (Hz e51)) Hn))))) (Hs (Hz (Hc (some (Jn [(5, [], Js 2 31), (6, [], Js 6 3)] [(0, [], Or false 5 (v 0)), (2, [], Or true 31 (v 3)), (6, [], Or true 3 (v 11))] 11 1 7)) Hn Hn)) (Hz Hn))))))
def p23 : PI := Pz (Pz (Ps e210 (Ps (Pi [([], Sc 22 [v 3] 4 1)]) (Ps (Pz (Pb 0 (Ps (Pi [([], Sm 5 [v 1, v 2, v 4, Sb e44 (N 1)])]) (Pl (Ps (Ps (Pz (Pc (E2 (B.cmp (BinOp.gtr)) (v 8) (N 0)) Pk (Ps (Pi [([], Sm 5 [v 5, v 6, v 7])]) (Px 0)))) (Ps (Pb 1 (Ps (Ps (Pi [([], Sc 1 [v 0, v 5, v 6, Ad (v 8) (N 1)] 9 3)]) (Ps (Pi [([], Sk e38)]) (Ps (Pi [([], Sk (An e235 (Lt (v 11) e302))), ([], Sk e38), ([], Ss 12 (E3 (Tr.setI) (v 7) (v 8) (Ix (v 7) (v 11))))]) (Pi [([], Sk (An e235 (Lt (v 11) e172))), ([], Ss 13 (E3 (Tr.setI) (v 12) (v 11) e257))])))) (Pi [([], Sm 9 [v 9, v 10, v 13])]))) (Pi []))) (Pi [([], Sm 5 [v 9, v 10, v 11, Sb (v 8) (N 1)])])))))) (Ps (Ps (Pi [([], Sc 2 [v 0, v 5, v 6, N 20] 8 3)]) (Pc (v 10) (Ps (Pi [([], Ss 11 (E2 (B.cons) (N 1) Xn)), ([], Ss 12 (E2 (B.cat) (v 7) (v 11))), ([], Sk (Le e172 e139))]) (Pi [([], Sm 11 [v 12])])) (Ps Pk (Pi [([], Sm 11 [v 7])])))) (Pz (Pr [v 3, v 11])))))))
theorem i23 : Qi 23 p23 := zab (S := s23) (no0 := 1) (h := h23) tabOk (by kernel_rfl) Go.Proofs.Tryz.func13 rfl (by kernel_rfl) (by kernel_rfl)
def h24 : Hint := Hz (Hs (Hz (Hc (some (Jn [(0, [], SV.s (Sq (Leaf.int (.u32) (v 1)))), (2, [], J 2)] [] 1 2 0)) (Hz Hn) Hn)) (Hs (Hz (Hc (some (Jn [(0, [], SV.s (Sq (Leaf.int (.u32) (v 3)))), (2, [], J 4)] [] 3 2 0)) (Hz Hn) Hn)) (Hz Hn)))
def p24 : PI := Pz (Ps (Pz (Pc (E2 (B.cmp (BinOp.geq)) (v 0) (N 65536)) (Ps e120 (Pi [([], Sm 1 [E2 (B.ar (BinOp.shr) (.u32)) (v 0) (N 16), N 16])])) e212)) (Ps (Pz (Pc (E2 (B.cmp (BinOp.geq)) (v 1) (N 256)) (Ps e120 (Pi [([], Sm 3 [E2 (B.ar (BinOp.shr) (.u32)) (v 1) (N 8), Ad (v 2) (N 8)])])) e211)) (Ps (Pi [([], Sk (An (Le (N 0) e176) (Lt e176 e6)))]) (Pr [Ad (v 4) (E1 (U.conv (.i64)) (E2 (B.sidx) (Exp.str [0, 1, 2, 2, 3, 3, 3, 3, 4, 4, 4, 4, 4, 4, 4, 4, 5, 5, 5, 5, 5, 5, 5, 5, 5, 5, 5, 5, 5, 5, 5, 5, 6, 6, 6, 6, 6, 6, 6, 6, 6, 6, 6, 6, 6, 6, 6, 6, 6, 6, 6, 6, 6, 6, 6, 6, 6, 6, 6, 6, 6, 6, 6, 6, 7, 7, 7, 7, 7, 7, 7, 7, 7, 7, 7, 7, 7, 7, 7, 7, 7, 7, 7, 7, 7, 7, 7, 7, 7, 7, 7, 7, 7, 7, 7, 7, 7, 7, 7, 7, 7, 7, 7, 7, 7, 7, 7, 7, 7, 7, 7, 7, 7, 7, 7, 7, 7, 7, 7, 7, 7, 7, 7, 7, 7, 7, 7, 7, 8, 8, 8, 8, 8, 8, 8, 8, 8, 8, 8, 8, 8, 8, 8, 8, 8, 8, 8, 8, 8, 8, 8, 8, 8, 8, 8, 8, 8, 8, 8, 8, 8, 8, 8, 8, 8, 8, 8, 8, 8, 8, 8, 8, 8, 8, 8, 8, 8, 8, 8, 8, 8, 8, 8, 8, 8, 8, 8, 8, 8, 8, 8, 8, 8, 8, 8, 8, 8, 8, 8, 8, 8, 8, 8, 8, 8, 8, 8, 8, 8, 8, 8, 8, 8, 8, 8, 8, 8, 8, 8, 8, 8, 8, 8, 8, 8, 8, 8, 8, 8, 8, 8, 8, 8, 8, 8, 8, 8, 8, 8, 8, 8, 8, 8, 8, 8, 8, 8, 8, 8, 8, 8, 8, 8, 8, 8, 8]) e176))]))))
theorem i24 : Qi 24 p24 := zab (S := s24) (no0 := 0) (h := h24) tabOk (by kernel_rfl) Go.Proofs.Tryz.func159 rfl (by kernel_rfl) (by kernel_rfl)
def h25 : Hint := Hz (Hs (Hz (Hc (some (Jn [(0, [], SV.s (Sq (Lu 1))), (2, [], J 2)] [] 1 2 0)) (Hz Hn) Hn)) (Hs (Hz (Hc (some (Jn [(0, [], SV.s e271), (2, [], J 4)] [] 3 2 0)) (Hz Hn) Hn)) (Hs (Hz (Hc (some (Jn [(0, [], SV.s (Sq (Lu 5))), (2, [], J 6)] [] 5 2 0)) (Hz Hn) Hn)) (Hz Hn))))
def p25 : PI := Pz (Ps (Pz (Pc (E2 (B.cmp (BinOp.geq)) (v 0) (N 4294967296)) (Ps e120 (Pi [([], Sm 1 [E2 (B.ar (BinOp.shr) (.u64)) (v 0) (N 32), N 32])])) e212)) (Ps (Pz (Pc (E2 (B.cmp (BinOp.geq)) (v 1) (N 65536)) (Ps e120 (Pi [([], Sm 3 [E2 (B.ar (BinOp.shr) (.u64)) (v 1) (N 16), Ad (v 2) (N 16)])])) e211)) (Ps (Pz (Pc (E2 (B.cmp (BinOp.geq)) (v 3) (N 256)) (Ps e120 (Pi [([], Sm 5 [E2 (B.ar (BinOp.shr) (.u64)) (v 3) (N 8), Ad (v 4) (N 8)])])) (Ps Pk e155))) (Ps (Pi [([], Sk (An (Le (N 0) e175) (Lt e175 e6)))]) (Pr [Ad (v 6) (E1 (U.conv (.i64)) (E2 (B.sidx) (Exp.str [0, 1, 2, 2, 3, 3, 3, 3, 4, 4, 4, 4, 4, 4, 4, 4, 5, 5, 5, 5, 5, 5, 5, 5, 5, 5, 5, 5, 5, 5, 5, 5, 6, 6, 6, 6, 6, 6, 6, 6, 6, 6, 6, 6, 6, 6, 6, 6, 6, 6, 6, 6, 6, 6, 6, 6, 6, 6, 6, 6, 6, 6, 6, 6, 7, 7, 7, 7, 7, 7, 7, 7, 7, 7, 7, 7, 7, 7, 7, 7, 7, 7, 7, 7, 7, 7, 7, 7, 7, 7, 7, 7, 7, 7, 7, 7, 7, 7, 7, 7, 7, 7, 7, 7, 7, 7, 7, 7, 7, 7, 7, 7, 7, 7, 7, 7, 7, 7, 7, 7, 7, 7, 7, 7, 7, 7, 7, 7, 8, 8, 8, 8, 8, 8, 8, 8, 8, 8, 8, 8, 8, 8, 8, 8, 8, 8, 8, 8, 8, 8, 8, 8, 8, 8, 8, 8, 8, 8, 8, 8, 8, 8, 8, 8, 8, 8, 8, 8, 8, 8, 8, 8, 8, 8, 8, 8, 8, 8, 8, 8, 8, 8, 8, 8, 8, 8, 8, 8, 8, 8, 8, 8, 8, 8, 8, 8, 8, 8, 8, 8, 8, 8, 8, 8, 8, 8, 8, 8, 8, 8, 8, 8, 8, 8, 8, 8, 8, 8, 8, 8, 8, 8, 8, 8, 8, 8, 8, 8, 8, 8, 8, 8, 8, 8, 8, 8, 8, 8, 8, 8, 8, 8, 8, 8, 8, 8, 8, 8, 8, 8, 8, 8, 8, 8, 8, 8]) e175))])))))
theorem i25 : Qi 25 p25 := zab (S := s25) (no0 := 0) (h := h25) tabOk (by kernel_rfl) Go.Proofs.Tryz.func160 rfl (by kernel_rfl) (by kernel_rfl)
def h26 : Hint := Hz (Hs e100 (Hz Hn))
def p26 : PI := Pz (Ps (Pc (Xf) (Ps (Pi [([], Sc 24 [E1 (U.conv (.u32)) (v 0)] 1 1)]) e247) Pk) (Ps (Pi [([], Sc 25 [v 0] 1 1)]) e247))
theorem i26 : Qi 26 p26 := zab (S := s26) (no0 := 0) (h := h26) tabOk (by kernel_rfl) Go.Proofs.Tryz.func100 rfl (by kernel_rfl) (by kernel_rfl)
def h27 : Hint := Hz (Hz Hn)
def p27 : PI := Pz (Pz (Pr [E2 (B.cmp (BinOp.neq)) (v 0) (v 0)]))
theorem i27 : Qi 27 p27 := zab (S := s27) (no0 := 0) (h := h27) tabOk (by kernel_rfl) Go.Proofs.Tryz.func214 rfl (by kernel_rfl) (by kernel_rfl)
def h28 : Hint := Hz (Hz Hn)
def p28 : PI := Pz (Ps (Pi [([], Sc 27 [v 0] 2 1), ([(v 2, true)], Sc 27 [v 1] 3 1), ([], Ss 4 (E3 (Tr.ite) (v 2) e174 (Xf))), ([], Ss 5 (E3 (Tr.ite) (v 4) (Xt) (Lt (v 0) (v 1))))]) (Pr [v 5]))
theorem i28 : Qi 28 p28 := zab (S := s28) (no0 := 0) (h := h28) tabOk (by kernel_rfl) Go.Proofs.Tryz.func156 rfl (by kernel_rfl) (by kernel_rfl)
def h29 : Hint := Hz (Hb (Jn [] [(0, [], Or true 3 (v 3))] 3 1 1) (Hl (Jn [(0, [], Js 0 3), (1, [], J 1), (2, [], J 2), (6, [], J 4)] [(0, [], Or true 3 (v 3))] 3 2 1) (Hs (Hz e7) (Hs (Hb e90 (Hz (Hb e90 (Hl (Jn [(0, [], Js 0 3), (1, [], J 1), (2, [], J 2), (6, [], J 4), (7, [], J 6)] [(0, [], Or true 3 (v 5))] 5 2 1) (Hs (Hs (Hr (mt mo (mt mo (mt mo (mt mo (mt mo (mt mo (mt mo (mt e5 (mf mo (mf mo (mf mo e124)))))))))))) e7) (Hs (Hb (Jn [(0, [], Js 0 3), (1, [], J 1), (2, [], J 2), (6, [], J 4), (7, [], J 6)] [(0, [], Or true 3 (v 9))] 9 1 1) (Hr e93)) Hn)))))) Hn))))
def p29 : PI := Ps (Pz (Pb 0 (Ps e203 (Pl (Ps (Ps e223 (Ps (Pb 1 (Ps (Pz (Pb 2 (Ps e155 (Pl (Ps (Ps (Ps (Pi [([(E2 (B.cmp (BinOp.gtr)) (v 6) (v 1), true)], Sk e52), ([(E2 (B.cmp (BinOp.gtr)) (v 6) (v 1), true)], Sk e82), ([(E2 (B.cmp (BinOp.gtr)) (v 6) (v 1), true)], Sc 28 [Ix (v 5) (v 6), Ix (v 5) e17] 7 1), ([], Ss 8 (E3 (Tr.ite) e214 (v 7) (Xf)))]) (Pc (v 8) Pk e209)) (Ps (Pb 3 (Ps (Pi [([], Sk e82), ([], Sk e52), ([], Sk e52), ([], Ss 9 (E3 (Tr.setI) (v 5) (v 6) e284)), ([], Sk e240), ([], Ss 10 (E3 (Tr.setI) (v 9) e17 e259))]) e280)) (Pi []))) (Pi [([], Sm 5 [v 9, Sb (v 6) (N 1)])])))))) e48)) (Pi []))) e116))))) e145
theorem i29 : Qi 29 p29 := zab (S := s29) (no0 := 1) (h := h29) tabOk (by kernel_rfl) Go.Proofs.Tryz.func150 rfl (by kernel_rfl) (by kernel_rfl)
def h30 : Hint := Hz (Hz (Hk (Hl (Jn [(0, [], Js 0 3), (1, [], J 1), (2, [], J 2), (3, [], J 3), (8, [], SV.s e63), (9, [], SV.s e63)] [(0, [], Or true 3 (v 0))] 4 0 1) (Hk (Hz (Hs e4 (Hint.stuck)))))))
def p30 : PI := Pz (Pz (Pb 0 (Ps e121 (Pl (Pb 1 (Pz (Ps (Pz (Pc (Le e46 (N 12)) (Ps (Pi [([], Sc 29 [v 0, v 1, v 2] 4 1)]) e299) Pk)) e115)))))))
theorem i30 : Qi 30 p30 := zab (S := s30) (no0 := 1) (h := h30) tabOk (by kernel_rfl) Go.Proofs.Tryz.func99 rfl (by kernel_rfl) (by kernel_rfl)
def h31 : Hint := Hz Hn
def p31 : PI := Ps (Pz (Pi [([], Sc 26 [E1 (U.conv (.u64)) e14] 1 1), ([], Sc 30 [v 0, N 0, Ln (v 0), v 1] 2 1)])) e300
theorem i31 : Qi 31 p31 := zab (S := s31) (no0 := 1) (h := h31) tabOk (by kernel_rfl) Go.Proofs.Tryz.func55 rfl (by kernel_rfl) (by kernel_rfl)
def h32 : Hint := Hz (Hz (Hs (Hz (Hb (Jn [(3, [], Js 6 3)] [(0, [], Or false 31 (v 0)), (6, [], Or true 3 (v 2))] 2 1 7) (Hl (Jn [(3, [], Js 6 3), (7, [], Js 0 31), (8, [], SV.s e2), (9, [], J 3)] [(0, [], Or false 31 (v 0)), (6, [], Or true 3 (v 2))] 2 2 7) (Hz (Hs e7 (Hs (Hb (Jn [(3, [], Js 10 3), (7, [], Js 0 31), (8, [], SV.s e2), (9, [], J 3)] [(0, [], Or false 31 (v 0)), (10, [], Or true 3 (v 4))] 4 1 11) (Hz (Hz (Hc (some (Jn [(3, [], Js 10 3), (7, [], Js 0 31), (8, [], SV.s e2), (9, [], J 3)] [(0, [], Or false 31 (v 0)), (10, [], Or true 3 (v 5))] 5 1 11)) Hn Hn)))) Hn)))))) e51))
def p32 : PI := Pz (Ps (Pi [([], Ss 1 Xn)]) (Ps (Pz (Pb 0 (Ps e248 (Pl (Ps (Pz (Ps e34 (Ps (Pb 1 (Ps (Ps e37 (Pz (Pc (Ee e123 (N 3)) (Ps (Pi [([], Ss 5 e157), ([], Ss 6 (E2 (B.cat) (v 2) (v 5))), ([], Sk (Le e171 e139))]) e291) e144))) e136)) (Pi [])))) e81))))) (Ps (Pi [([], Sc 31 [v 2] 3 1)]) (Pz e145))))
theorem i32 : Qi 32 p32 := zab (S := s32) (no0 := 1) (h := h32) tabOk (by kernel_rfl) Go.Proofs.Tryz.func57 rfl (by kernel_rfl) (by kernel_rfl)
def h33 : Hint := Hz (Hs e4 (Hs (Hz (Hb (Jn [] [(0, [], Or false 3 (v 0)), (1, [], Or false 3 (v 1))] 2 0 2) (Hl (Jn [(0, [], Js 0 3), (1, [], Js 1 3), (12, [], SV.s e2), (13, [], J 2)] [(0, [], Or false 3 (v 0)), (1, [], Or false 3 (v 1))] 2 1 2) (Hz (Hs e7 (Hs (Hb (Jn [(0, [], Js 0 3), (1, [], Js 1 3), (12, [], SV.s e2), (13, [], J 2)] [(0, [], Or false 3 (v 0)), (1, [], Or false 3 (v 1))] 3 0 2) (Hz (Hs (Hr mo) e100))) Hn)))))) (Hz Hn)))
def p33 : PI := Pz (Ps e162 (Ps (Pz (Pb 0 (Ps e102 (Pl (Ps (Pz (Ps e29 (Ps (Pb 1 (Ps (Pz (Ps (Pi [([], Sk e26), ([], Sk e217)]) (Pc (E2 (B.cmp (BinOp.neq)) e56 (Ix (v 1) (v 2))) e53 Pk))) e50)) (Pi [])))) e61))))) e179))
theorem i33 : Qi 33 p33 := zab (S := s33) (no0 := 2) (h := h33) tabOk (by kernel_rfl) Go.Proofs.Tryz.func56 rfl (by kernel_rfl) (by kernel_rfl)
def h34 : Hint := Hz (Hs e4 (Hz (Hz (Hs e4 (Hz (Hs (Hz (Hb (Jn [(7, [], Js 11 31)] [(0, [], Or false 31 (v 0)), (1, [], Or false 3 (v 1)), (11, [], Or true 31 (v 9))] 9 1 12) (Hl (Jn [(0, [], Js 0 31), (7, [], Js 11 31), (26, [], Js 1 3), (27, [], SV.s e16), (28, [], J 10)] [(0, [], Or false 31 (v 0)), (1, [], Or false 3 (v 1)), (11, [], Or true 31 (v 9))] 9 2 12) (Hz (Hs e7 (Hs (Hb e30 (Hz (Hz (Hb e30 (Hl (Jn [(0, [], Js 0 31), (7, [], Js 16 31), (9, [], SV.s e105), (26, [], Js 1 3), (27, [], SV.s e16), (28, [], J 10), (32, [], Js 0 31), (33, [], SV.s e2), (34, [], J 12)] [(0, [], Or false 31 (v 0)), (1, [], Or false 3 (v 1)), (16, [], Or true 31 (v 11))] 11 2 17) (Hz (Hs e7 (Hs (Hb (Jn [(0, [], Js 0 31), (7, [], Js 20 31), (9, [], SV.s e105), (26, [], Js 1 3), (27, [], SV.s e16), (28, [], J 10), (32, [], Js 0 31), (33, [], SV.s e2), (34, [], J 12)] [(0, [], Or false 31 (v 0)), (1, [], Or false 3 (v 1)), (20, [], Or true 31 (v 13))] 13 1 21) (Hz (Hz (Hc (some (Jn [(0, [], Js 0 31), (7, [], Js 20 31), (9, [], SV.s e105), (26, [], Js 1 3), (27, [], SV.s e16), (28, [], J 10), (32, [], Js 0 31), (33, [], SV.s e2), (34, [], J 12)] [(0, [], Or false 31 (v 0)), (1, [], Or false 3 (v 1)), (20, [], Or true 31 (v 14))] 14 1 21)) Hn Hn)))) Hn)))))))) Hn)))))) (Hz Hn)))))))
def p34 : PI := Pz (Ps (Ps (Pi [([], Sc 12 [v 0] 2 1)]) (Pc (E1 (U.not) (v 2)) e84 Pk)) (Ps (Pi [([], Ss 3 Xn), ([], Ss 4 (E2 (B.cat) (v 3) (v 1))), ([], Sk (Le e44 e139))]) (Ps (Pi [([], Sc 31 [v 4] 5 1)]) (Ps (Ps (Pi [([], Sc 32 [v 0] 6 1), ([], Sc 33 [v 5, v 6] 7 1)]) (Pc (E1 (U.not) (v 7)) e84 Pk)) (Ps (Pi [([], Ss 8 Xn)]) (Ps (Pz (Pb 0 (Ps (Pi [([], Sm 9 [v 8, N 0])]) (Pl (Ps (Pz (Ps (Pc (Lt (v 10) e88) Pk (Ps e289 (Px 0))) (Ps (Pb 1 (Ps (Ps (Pi [([], Sk (An (Le (N 0) (v 10)) (Lt (v 10) e88)))]) (Pz (Pb 2 (Ps (Pi [([], Sm 11 [v 9, N 0])]) (Pl (Ps (Pz (Ps (Pc (Lt (v 12) e14) Pk (Ps e76 (Px 2))) (Ps (Pb 3 (Ps (Ps (Pi [([], Sk (An e74 (Lt (v 12) e14))), ([], Ss 13 (Ix (v 0) (v 12)))]) (Pz (Pc (Ee e198 (Ix (v 1) (v 10))) (Ps (Pi [([], Ss 14 (E2 (B.cons) (E2 (B.cons) e304 (E2 (B.cons) e198 (E2 (B.cons) (Ce 2 (v 13)) Xn))) Xn)), ([], Ss 15 (E2 (B.cat) (v 11) (v 14))), ([], Sk (Le e140 e118))]) (Pi [([], Sm 14 [v 15])])) (Ps Pk (Pi [([], Sm 14 [v 11])]))))) (Pi [([], Sm 13 [v 14])]))) (Pi [])))) (Pi [([], Sm 11 [v 13, Ad (v 12) (N 1)])]))))))) e76)) (Pi [])))) (Pi [([], Sm 9 [v 11, Ad (v 10) (N 1)])])))))) (Pz (Pr [v 9, Xt]))))))))
theorem i34 : Qi 34 p34 := zab (S := s34) (no0 := 2) (h := h34) tabOk (by kernel_rfl) Go.Proofs.Tryz.func14 rfl (by kernel_rfl) (by kernel_rfl)
def h35 : Hint := Hz (Hs (Hz (Hb e193 (Hl (Jn [(1, [], J 1), (7, [], Js 0 3), (8, [], SV.s e2), (9, [], J 2)] [(0, [], Or false 3 (v 0))] 2 1 1) (Hz (Hs e7 (Hs (Hb (Jn [(1, [], J 1), (7, [], Js 0 3), (8, [], SV.s e2), (9, [], J 2)] [(0, [], Or false 3 (v 0))] 3 0 1) (Hz e4)) Hn)))))) (Hz Hn))
def p35 : PI := Pz (Ps (Pz (Pb 0 (Ps e102 (Pl (Ps (Pz (Ps e29 (Ps (Pb 1 (Ps (Ps e218 (Pz (Pc (Ee e56 (v 1)) e179 Pk))) e50)) (Pi [])))) e61))))) e53)
theorem i35 : Qi 35 p35 := zab (S := s35) (no0 := 1) (h := h35) tabOk (by kernel_rfl) Go.Proofs.Tryz.func58 rfl (by kernel_rfl) (by kernel_rfl)
def h36 : Hint := Hz (Hz (Hs e4 (Hs (Hz (Hb (Jn [(0, [], Js 0 31), (1, [], Js 1 3)] [(0, [], Or false 31 (v 0)), (1, [], Or false 3 (v 1))] 5 0 3) (Hl (Jn [(0, [], Js 0 31), (1, [], Js 1 3), (6, [], Js 2 3), (26, [], Js 1 3), (27, [], SV.s e16), (28, [], J 5)] [(0, [], Or false 31 (v 0)), (1, [], Or false 3 (v 1)), (2, [], Or true 3 (v 2))] 5 1 3) (Hz (Hs e7 (Hs (Hb (Jn [(0, [], Js 0 31), (1, [], Js 1 3), (6, [], Js 2 3), (26, [], Js 1 3), (27, [], SV.s e16), (28, [], J 5)] [(0, [], Or false 31 (v 0)), (1, [], Or false 3 (v 1)), (2, [], Or true 3 (v 2))] 6 0 3) (Hz e4)) Hn)))))) (Hz (Hs (Hz (Hb (Jn [(9, [], Js 9 31)] [(0, [], Or false 31 (v 0)), (1, [], Or false 3 (v 1)), (9, [], Or true 31 (v 5))] 5 1 10) (Hl (Jn [(0, [], Js 0 31), (9, [], Js 9 31), (45, [], Js 1 3), (46, [], SV.s e16), (47, [], J 6)] [(0, [], Or false 31 (v 0)), (1, [], Or false 3 (v 1)), (9, [], Or true 31 (v 5))] 5 2 10) (Hz (Hs e7 (Hs (Hb e31 (Hz (Hz (Hb e31 (Hl (Jn [(0, [], Js 0 31), (9, [], Js 14 31), (11, [], SV.s e113), (45, [], Js 1 3), (46, [], SV.s e16), (47, [], J 6), (51, [], Js 0 31), (52, [], SV.s e2), (53, [], J 8)] [(0, [], Or false 31 (v 0)), (1, [], Or false 3 (v 1)), (14, [], Or true 31 (v 7))] 7 2 15) (Hz (Hs e7 (Hs (Hb (Jn [(0, [], Js 0 31), (9, [], Js 18 31), (11, [], SV.s e113), (45, [], Js 1 3), (46, [], SV.s e16), (47, [], J 6), (51, [], Js 0 31), (52, [], SV.s e2), (53, [], J 8)] [(0, [], Or false 31 (v 0)), (1, [], Or false 3 (v 1)), (18, [], Or true 31 (v 9))] 9 1 19) (Hz (Hz (Hc (some (Jn [(0, [], Js 0 31), (9, [], Js 18 31), (11, [], SV.s e113), (45, [], Js 1 3), (46, [], SV.s e16), (47, [], J 6), (51, [], Js 0 31), (52, [], SV.s e2), (53, [], J 8)] [(0, [], Or false 31 (v 0)), (1, [], Or false 3 (v 1)), (18, [], Or true 31 (v 10))] 10 1 19)) Hn Hn)))) Hn)))))))) Hn)))))) (Hz Hn))))))
def p36 : PI := Pz (Ps (Pi [([], Sc 22 [v 0] 2 1)]) (Ps (Ps (Pi [([], Sc 17 [v 0] 3 1), ([], Ss 4 (E3 (Tr.ite) e174 (Xt) (E2 (B.cmp (BinOp.neq)) e88 (Ln (v 2)))))]) (Pc (v 4) e84 Pk)) (Ps (Pz (Pb 0 (Ps (Pi [([], Sm 5 [N 0])]) (Pl (Ps (Pz (Ps (Pc (Lt (v 5) e88) Pk (Ps (Pi [([], Sm 5 [])]) (Px 0))) (Ps (Pb 1 (Ps (Ps (Pi [([], Sk (An e92 (Lt (v 5) e88)))]) (Ps (Pi [([], Sc 35 [v 2, Ix (v 1) (v 5)] 6 1), ([(E1 (U.not) (v 6), false)], Sk (An e255 (An e92 (Le (v 5) e88)))), ([(E1 (U.not) (v 6), false)], Sc 35 [E3 (Tr.ext) (v 1) (N 0) (v 5), Ix (v 1) (v 5)] 7 1), ([], Ss 8 (E3 (Tr.ite) (E1 (U.not) (v 6)) (Xt) (v 7)))]) (Pc (v 8) e84 Pk))) (Pi [([], Sm 6 [])]))) (Pi [])))) (Pi [([], Sm 5 [Ad (v 5) (N 1)])])))))) (Pz (Ps (Pz (Pb 2 (Ps (Pi [([], Sm 5 [Xn, N 0])]) (Pl (Ps (Pz (Ps (Pc (Lt (v 6) e88) Pk e209) (Ps (Pb 3 (Ps (Ps (Pi [([], Sk (An e21 (Lt (v 6) e88)))]) (Pz (Pb 4 (Ps (Pi [([], Sm 7 [v 5, N 0])]) (Pl (Ps (Pz (Ps (Pc (Lt (v 8) e14) Pk (Ps e290 (Px 4))) (Ps (Pb 5 (Ps (Ps (Pi [([], Sk (An e253 (Lt (v 8) e14))), ([], Ss 9 (Ix (v 0) (v 8)))]) (Pz (Pc (Ee (Ce 1 (v 9)) (Ix (v 1) (v 6))) (Ps (Pi [([], Ss 10 (E2 (B.cons) (E2 (B.cons) (Ce 0 (v 9)) (E2 (B.cons) (Ce 1 (v 9)) (E2 (B.cons) (Ce 2 (v 9)) Xn))) Xn)), ([], Ss 11 (E2 (B.cat) (v 7) (v 10))), ([], Sk (Le e226 e118))]) (Pi [([], Sm 10 [v 11])])) (Ps Pk (Pi [([], Sm 10 [v 7])]))))) e280)) (Pi [])))) (Pi [([], Sm 7 [v 9, Ad (v 8) (N 1)])]))))))) e290)) (Pi [])))) e202))))) (Pz (Pr [v 5, Xt])))))))
theorem i36 : Qi 36 p36 := zab (S := s36) (no0 := 2) (h := h36) tabOk (by kernel_rfl) Go.Proofs.Tryz.func15 rfl (by kernel_rfl) (by kernel_rfl)
def h37 : Hint := Hz (Hs e4 (Hs (Hz (Hb (Jn [] [(0, [], Or false 31 (v 0)), (1, [], Or false 31 (v 1))] 2 0 2) (Hl (Jn [(0, [], Js 0 31), (1, [], Js 1 31), (12, [], SV.s e2), (13, [], J 2)] [(0, [], Or false 31 (v 0)), (1, [], Or false 31 (v 1))] 2 1 2) (Hz (Hs e7 (Hs (Hb (Jn [(0, [], Js 0 31), (1, [], Js 1 31), (12, [], SV.s e2), (13, [], J 2)] [(0, [], Or false 31 (v 0)), (1, [], Or false 31 (v 1))] 3 0 2) (Hz (Hs (Hr (mt (mf (mf e269 mo) (mt e269 mo)) (mt (mf e269 mo) (mt e269 (mt e89 (mt (mf mo (mt mo mo)) e267)))))) e100))) Hn)))))) (Hz Hn)))
def p37 : PI := Pz (Ps e162 (Ps (Pz (Pb 0 (Ps e102 (Pl (Ps (Pz (Ps e29 (Ps (Pb 1 (Ps (Pz (Ps (Pi [([], Sk e26), ([], Ss 3 e56), ([], Sk e217), ([], Ss 4 (Ix (v 1) (v 2)))]) (Pc (E1 (U.not) (An (Ee (Ce 0 (v 3)) e123) (An (Ee (Ce 1 (v 3)) e95) (E2 (B.scmp (BinOp.eql)) (Ce 2 (v 3)) e215)))) e53 Pk))) e50)) (Pi [])))) e61))))) e179))
theorem i37 : Qi 37 p37 := zab (S := s37) (no0 := 2) (h := h37) tabOk (by kernel_rfl) Go.Proofs.Tryz.func16 rfl (by kernel_rfl) (by kernel_rfl)
def h38 : Hint := Hz (Hz (Hz (Hs (Hz (Hc none e168 Hn)) (Hs e4 (Hs e4 e168)))))
def p38 : PI := Pz (Ps (Pi [([], Sc 27 [v 0] 2 1)]) (Ps (Pi [([], Sc 27 [v 1] 3 1)]) (Ps (Pz (Pc (v 2) (Ps (Pz (Pc (v 3) e208 Pk)) e114) Pk)) (Ps (Pz (Pc (v 3) (Pz (Pr [N 1])) Pk)) (Ps (Pz (Pc (Lt (v 0) (v 1)) e114 Pk)) (Ps (Pz (Pc (E2 (B.cmp (BinOp.gtr)) (v 0) (v 1)) (Pz (Pr [N 1])) Pk)) e208))))))
theorem i38 : Qi 38 p38 := zab (S := s38) (no0 := 0) (h := h38) tabOk (by kernel_rfl) Go.Proofs.Tryz.func164 rfl (by kernel_rfl) (by kernel_rfl)
def h39 : Hint := Hz (Hz (Hs (Hz (Hb (Jn [(3, [], SV.s e24)] [(0, [], Or false 3 (v 0))] 1 0 1) (Hl (Jn [(3, [], SV.s e24), (6, [], Js 0 3), (7, [], SV.s e2), (8, [], J 1)] [(0, [], Or false 3 (v 0))] 1 1 1) (Hz (Hs e7 (Hs (Hb (Jn [(3, [], SV.s e24), (6, [], Js 0 3), (7, [], SV.s e2), (8, [], J 1)] [(0, [], Or false 3 (v 0))] 2 0 1) (Hz e4)) Hn)))))) (Hz Hn)))
def p39 : PI := Pz (Pz (Ps (Pz (Pb 0 (Ps e189 (Pl (Ps (Pz (Ps e86 (Ps (Pb 1 (Ps (Ps (Pi [([], Sk e49)]) (Pz (Pc (E2 (B.cmp (BinOp.neq)) e107 (N 0)) (Pz (Pr [Ix (v 0) (v 1)])) Pk))) e99)) (Pi [])))) e91))))) e208))
theorem i39 : Qi 39 p39 := zab (S := s39) (no0 := 1) (h := h39) tabOk (by kernel_rfl) Go.Proofs.Tryz.func163 rfl (by kernel_rfl) (by kernel_rfl)
def h40 : Hint := Hz (Hs (Hr (mt (mf e161 mo) (mt e161 (mt (mf e297 mo) (mt e297 (mt e8 (mt (mf e170 mo) (mt e170 e201)))))))) Hn)
def p40 : PI := Pz (Ps (Pi [([], Sc 38 [v 0, v 2] 4 1), ([], Sc 38 [v 1, v 3] 5 1), ([], Ss 6 (E2 (B.cons) (v 4) (E2 (B.cons) (v 5) Xn))), ([], Sc 39 [v 6] 7 1)]) e298)
theorem i40 : Qi 40 p40 := zab (S := s40) (no0 := 0) (h := h40) tabOk (by kernel_rfl) Go.Proofs.Tryz.func162 rfl (by kernel_rfl) (by kernel_rfl)
def h41 : Hint := Hz (Hb e103 (Hl (Jn [(0, [], Js 0 44), (1, [], J 1), (2, [], J 2), (3, [], SV.s e3), (8, [], J 4)] [(0, [], Or true 44 (v 3))] 3 2 1) (Hs (Hz e7) (Hs (Hb e72 (Hz (Hb e72 (Hl (Jn [(0, [], Js 0 44), (1, [], J 1), (2, [], J 2), (3, [], SV.s e3), (8, [], J 4), (9, [], J 6)] [(0, [], Or true 44 (v 5))] 5 2 1) (Hs (Hs (Hr (mt mo (mt mo (mt mo (mt mo e58))))) e7) (Hs (Hb (Jn [(0, [], Js 0 44), (1, [], J 1), (2, [], J 2), (3, [], SV.s e3), (8, [], J 4), (9, [], J 6)] [(0, [], Or true 44 (v 11))] 11 1 1) (Hr e93)) Hn)))))) Hn))))
def p41 : PI := Ps (Pz (Pb 0 (Ps e203 (Pl (Ps (Ps e223 (Ps (Pb 1 (Ps (Pz (Pb 2 (Ps e155 (Pl (Ps (Ps (Ps (Pi [([(E2 (B.cmp (BinOp.gtr)) (v 6) (v 1), true)], Sk e52), ([(E2 (B.cmp (BinOp.gtr)) (v 6) (v 1), true)], Ss 7 e259), ([(E2 (B.cmp (BinOp.gtr)) (v 6) (v 1), true)], Sk e82), ([(E2 (B.cmp (BinOp.gtr)) (v 6) (v 1), true)], Ss 8 e284), ([(E2 (B.cmp (BinOp.gtr)) (v 6) (v 1), true)], Sc 40 [Ce 0 (v 7), Ce 1 (v 7), Ce 0 (v 8), Ce 1 (v 8)] 9 1), ([], Ss 10 (E3 (Tr.ite) e214 (Lt (v 9) (N 0)) (Xf)))]) (Pc (v 10) Pk e209)) (Ps (Pb 3 (Ps (Pi [([], Sk e82), ([], Ss 11 e284), ([], Sk e52), ([], Ss 12 e259), ([], Sk e52), ([], Ss 13 (E3 (Tr.setI) (v 5) (v 6) e78)), ([], Sk (An e130 (Lt e17 (Ln (v 13))))), ([], Ss 14 (E3 (Tr.setI) (v 13) e17 (E2 (B.cons) (Ce 0 (v 12)) (E2 (B.cons) (Ce 1 (v 12)) Xn))))]) (Pi [([], Sm 11 [v 14])]))) (Pi []))) (Pi [([], Sm 5 [v 11, Sb (v 6) (N 1)])])))))) e48)) (Pi []))) e116))))) e145
theorem i41 : Qi 41 p41 := zab (S := s41) (no0 := 1) (h := h41) tabOk (by kernel_rfl) Go.Proofs.Tryz.func244 rfl (by kernel_rfl) (by kernel_rfl)
def h42 : Hint := Hz (Hb e192 (Hl (Jn [(0, [], Js 0 44), (2, [], J 2), (3, [], J 3), (4, [], SV.s e3), (10, [], J 5)] [(0, [], Or true 44 (v 4))] 4 2 1) (Hb (Jn [(0, [], Js 0 44), (2, [], J 2), (3, [], J 3), (4, [], SV.s e3), (10, [], J 7)] [(0, [], Or true 44 (v 6))] 6 2 1) (Hz (Hs (Hz e7) (Hs (Hs (Hr (mt mo (mt mo (mt mo (mt mo (mt mo (mt mo (mt mo (mt mo (mt mo (mt mo (mt mo (mt (mf mo e201) (mf mo (mf mo (mf mo e138)))))))))))))))) (Hc (some (Jn [(0, [], Js 0 44), (2, [], J 2), (3, [], J 3), (4, [], SV.s e3), (10, [], J 5), (11, [], J 10)] [(0, [], Or true 44 (v 4))] 10 1 1)) Hn Hn)) (Hs (Hs (Hr (mt mo (mt mo (mt mo (mt mo (mt mo (mt mo (mt e268 (mf mo (mf mo e138)))))))))) e7) (Hs (Hr (mt mo (mt mo (mt mo (mt mo (mt mo (mt mo (mt mo (mt mo (mt mo (mt mo (mt mo (mt mo (mt mo (mt e268 (mf mo (mf mo e160))))))))))))))))) Hn))))))))
def p42 : PI := Ps (Pz (Pb 0 (Ps (Pi [([], Sm 4 [v 0, v 1])]) (Pl (Ps (Pb 1 (Ps (Pz (Ps (Pz (Pc (E2 (B.cmp (BinOp.geq)) e9 (v 2)) (Ps e187 (Px 0)) Pk)) (Ps (Ps (Pi [([(Lt e163 (v 2), true)], Sk (An (Le (N 0) e164) (Lt e164 e44))), ([(Lt e163 (v 2), true)], Ss 6 (Ix (v 4) e164)), ([(Lt e163 (v 2), true)], Sk (An (Le (N 0) e265) (Lt e265 e44))), ([(Lt e163 (v 2), true)], Ss 7 (Ix (v 4) e265)), ([(Lt e163 (v 2), true)], Sc 40 [Ce 0 (v 6), Ce 1 (v 6), Ce 0 (v 7), Ce 1 (v 7)] 8 1), ([], Ss 9 (E3 (Tr.ite) (Lt e163 (v 2)) (Lt (v 8) (N 0)) (Xf)))]) (Pc (v 9) (Pz (Pi [([], Sm 10 [Ad e9 (N 1)])])) (Ps Pk (Pi [([], Sm 10 [Ad e191 (N 1)])])))) (Ps (Ps (Pi [([], Sk e80), ([], Ss 11 (Ix (v 4) e159)), ([], Sk e231), ([], Ss 12 (Ix (v 4) e75)), ([], Sc 40 [Ce 0 (v 11), Ce 1 (v 11), Ce 0 (v 12), Ce 1 (v 12)] 13 1)]) (Pc (E1 (U.not) (Lt (v 13) (N 0))) e299 Pk)) (Ps (Pi [([], Sk e231), ([], Ss 14 (Ix (v 4) e75)), ([], Sk e80), ([], Ss 15 (Ix (v 4) e159)), ([], Sk e80), ([], Ss 16 (E3 (Tr.setI) (v 4) e159 e147)), ([], Sk (An (Le (N 0) e75) (Lt e75 (Ln (v 16))))), ([], Ss 17 (E3 (Tr.setI) (v 16) e75 (E2 (B.cons) (Ce 0 (v 15)) (E2 (B.cons) (Ce 1 (v 15)) Xn))))]) (Pi [])))))) (Pi [([], Sm 6 [v 17, v 10])]))) (Pi [([], Sm 4 [v 6, v 7])])))))) e299
theorem i42 : Qi 42 p42 := zab (S := s42) (no0 := 1) (h := h42) tabOk (by kernel_rfl) Go.Proofs.Tryz.func285 rfl (by kernel_rfl) (by kernel_rfl)
def h43 : Hint := Hz (Hz (Hz (Hs (Hz (Hb (Jn [(0, [], Js 0 44), (3, [], SV.s e3), (8, [], J 1), (9, [], SV.s e24), (10, [], SV.s e23)] [(0, [], Or true 44 (v 3))] 3 1 1) (Hl (Jn [(0, [], Js 0 44), (3, [], SV.s e3), (8, [], J 1), (9, [], SV.s e24), (10, [], SV.s e23), (11, [], J 4)] [(0, [], Or true 44 (v 3))] 3 2 1) (Hs (Hz e7) (Hs (Hb (Jn [(0, [], Js 0 44), (3, [], SV.s e3), (8, [], J 1), (9, [], SV.s e24), (10, [], SV.s e23), (11, [], J 4)] [(0, [], Or true 44 (v 5))] 5 1 1) Hn) Hn))))) (Hz (Hb e192 (Hl (Jn [(0, [], Js 0 44), (3, [], SV.s e3), (8, [], J 1), (9, [], SV.s e24), (12, [], J 5)] [(0, [], Or true 44 (v 4))] 4 2 1) (Hs (Hz e7) (Hs (Hb (Jn [(0, [], Js 0 44), (3, [], SV.s e3), (8, [], J 1), (9, [], SV.s e24), (12, [], J 5)] [(0, [], Or true 44 (v 6))] 6 1 1) (Hs e285 Hn)) Hn))))))))
def p43 : PI := Ps (Pz (Pz (Pz (Ps (Pz (Pb 0 (Ps (Pi [([], Sm 3 [v 0, E2 (B.ar (BinOp.quo) (.i64)) (Sb e46 (N 1)) (N 2)])]) (Pl (Ps (Ps (Pz (Pc (E2 (B.cmp (BinOp.geq)) (v 4) (N 0)) Pk e35)) (Ps (Pb 1 (Ps (Pi [([], Sc 42 [v 3, v 4, Sb (v 2) (v 1), v 1] 5 1)]) e48)) (Pi []))) (Pi [([], Sm 3 [v 5, Sb (v 4) (N 1)])])))))) (Pz (Pb 2 (Ps (Pi [([], Sm 4 [v 3, Sb e46 (N 1)])]) (Pl (Ps (Ps (Pz (Pc (E2 (B.cmp (BinOp.geq)) (v 5) (N 0)) Pk (Ps e187 (Px 2)))) (Ps (Pb 3 (Ps (Ps (Pi [([], Sk (An (Le (N 0) e134) (Lt e134 e44))), ([], Ss 6 (Ix (v 4) e134)), ([], Sk e295), ([], Ss 7 (Ix (v 4) (v 1))), ([], Sk e295), ([], Ss 8 (E3 (Tr.setI) (v 4) (v 1) e151)), ([], Sk (An (Le (N 0) e134) (Lt e134 e156))), ([], Ss 9 (E3 (Tr.setI) (v 8) e134 e83))]) (Pi [([], Sc 42 [v 9, N 0, v 5, v 1] 10 1)])) (Pi [([], Sm 6 [v 10])]))) (Pi []))) (Pi [([], Sm 4 [v 6, Sb (v 5) (N 1)])])))))))))) e299
theorem i43 : Qi 43 p43 := zab (S := s43) (no0 := 1) (h := h43) tabOk (by kernel_rfl) Go.Proofs.Tryz.func245 rfl (by kernel_rfl) (by kernel_rfl)
def h44 : Hint := Hz (Hz Hn)
def p44 : PI := Pz (Ps (Pi [([], Sc 26 [E1 (U.conv (.u64)) (v 0)] 1 1), ([], Sk (E2 (B.cmp (BinOp.geq)) (v 1) (N 0)))]) (Pr [E2 (B.ar (BinOp.shl) (.u64)) (N 1) (v 1)]))
theorem i44 : Qi 44 p44 := zab (S := s44) (no0 := 0) (h := h44) tabOk (by kernel_rfl) Go.Proofs.Tryz.func210 rfl (by kernel_rfl) (by kernel_rfl)
def h45 : Hint := Hz (Hs e47 (Hs e47 (Hs e47 (Hz Hn))))
def p45 : PI := Pz (Pz (Pz (Pz (Pz (Pr [E2 (B.ar (BinOp.xor) (.u64)) e110 (E2 (B.ar (BinOp.shl) (.u64)) e110 (N 17))])))))
theorem i45 : Qi 45 p45 := zab (S := s45) (no0 := 1) (h := h45) tabOk (by kernel_rfl) Go.Proofs.Tryz.func211 rfl (by kernel_rfl) (by kernel_rfl)
def h46 : Hint := Hz (Hz (Hc (some (Jn [] [(0, [], Or true 44 (v 3))] 3 1 2)) (Hz (Hz (Hz (Hb (Jn [] [(0, [], Or true 44 (v 4))] 4 1 2) (Hl (Jn [(0, [], Js 0 44), (1, [], J 1), (8, [], SV.s e23), (9, [], Jp 1 0), (10, [], SV.s e271), (11, [], J 6)] [(0, [], Or true 44 (v 4)), (1, [], Ob true [Lu 5])] 4 3 2) (Hs (Hz e7) (Hs (Hb (Jn [(0, [], Js 0 44), (1, [], J 1), (8, [], SV.s e23), (9, [], Jp 1 0), (10, [], SV.s e271), (11, [], J 6)] [(0, [], Or true 44 (v 7)), (1, [], Ob true [Lu 8])] 7 2 2) (Hz (Hs (Hz (Hc (some (Jn [(0, [], Js 0 44), (1, [], J 1), (8, [], SV.s e23), (9, [], Jp 1 0), (10, [], SV.s e271), (11, [], J 6), (12, [], J 8)] [(0, [], Or true 44 (v 4)), (1, [], Ob true [Lu 7])] 8 1 2)) Hn Hn)) e285))) Hn))))))) Hn))
def p46 : PI := Ps (Pz (Pz (Pc e221 (Ps (Pz (Ps (Pi [([], Sc 44 [Sb (v 2) (v 1)] 3 1)]) (Pz (Pb 0 (Ps (Pi [([], Sm 4 [v 0, E1 (U.conv (.u64)) e46, Sb (Ad (v 1) e43) (N 1)])]) (Pl (Ps (Ps (Pz (Pc (Le (v 6) (Ad (Ad (v 1) e43) (N 1))) Pk (Ps e187 (Px 0)))) (Ps (Pb 1 (Ps (Ps (Pi [([], Sc 45 [v 5] 7 1)]) (Ps (Pz (Pc (E2 (B.cmp (BinOp.geq)) e287 e46) (Pz (Pi [([], Sm 8 [Sb e287 e46])])) (Ps Pk (Pi [([], Sm 8 [E1 (U.conv (.i64)) e42])])))) (Pi [([], Sk (An (Le (N 0) e133) (Lt e133 e44))), ([], Ss 9 (Ix (v 4) e133)), ([], Sk e294), ([], Ss 10 (Ix (v 4) (v 6))), ([], Sk e294), ([], Ss 11 (E3 (Tr.setI) (v 4) (v 6) e150)), ([], Sk (An (Le (N 0) e133) (Lt e133 e226))), ([], Ss 12 (E3 (Tr.setI) (v 11) e133 e79))]))) (Pi [([], Sm 7 [v 12, v 7])]))) (Pi []))) e180))))))) (Pi [([], Sm 3 [v 4])])) (Ps Pk (Pi [([], Sm 3 [v 0])]))))) e145
theorem i46 : Qi 46 p46 := zab (S := s46) (no0 := 1) (h := h46) tabOk (by kernel_rfl) Go.Proofs.Tryz.func246 rfl (by kernel_rfl) (by kernel_rfl)
def h47 : Hint := Hz (Hs (Hs (Hr (mt mo (mt mo (mt mo (mt mo (mt e124 (mf mo (mf mo e124)))))))) e260) (Hz Hn))
def p47 : PI := Pz (Ps (Ps (Pi [([], Sk e26), ([], Ss 4 e56), ([], Sk e49), ([], Ss 5 e107), ([], Sc 40 [Ce 0 (v 4), Ce 1 (v 4), Ce 0 (v 5), Ce 1 (v 5)] 6 1)]) (Pc (Lt (v 6) (N 0)) (Pz (Pz (Pr [Ad (v 3) (N 1), v 2, v 1]))) Pk)) (Pz (Pr [v 3, v 1, v 2])))
theorem i47 : Qi 47 p47 := zab (S := s47) (no0 := 2) (h := h47) tabOk (by kernel_rfl) Go.Proofs.Tryz.func310 rfl (by kernel_rfl) (by kernel_rfl)
def h48 : Hint := Hz (Hz (Hz e51))
def p48 : PI := Pz (Ps (Pi [([], Sc 47 [v 0, v 1, v 2, v 4] 5 3)]) (Ps (Pi [([], Sc 47 [v 0, v 7, v 3, v 5] 8 3)]) (Ps (Pi [([], Sc 47 [v 0, v 6, v 9, v 8] 11 3)]) (Pz (Pr [v 11, v 13])))))
theorem i48 : Qi 48 p48 := zab (S := s48) (no0 := 2) (h := h48) tabOk (by kernel_rfl) Go.Proofs.Tryz.func287 rfl (by kernel_rfl) (by kernel_rfl)
def h49 : Hint := Hz (Hz Hn)
def p49 : PI := Pz (Ps (Pi [([], Sc 48 [v 0, Sb (v 1) (N 1), v 1, Ad (v 1) (N 1), v 2] 3 2)]) (Pr [v 3, v 4]))
theorem i49 : Qi 49 p49 := zab (S := s49) (no0 := 2) (h := h49) tabOk (by kernel_rfl) Go.Proofs.Tryz.func286 rfl (by kernel_rfl) (by kernel_rfl)
def h50 : Hint := Hz (Hz (Hz (Hz (Hz (Hz (Hs (Hz (Hc (some (Jn [(11, [], Jp 1 0), (13, [], J 4)] [(0, [], Or false 44 (v 0)), (1, [], Ob true [Li 3])] 3 2 2)) (Hs (Hz (Hc (some (Jn [(0, [], Js 0 44), (3, [], SV.s e3), (11, [], Jp 1 0), (12, [], J 4), (13, [], J 5), (14, [], J 6)] [(0, [], Or false 44 (v 0)), (1, [], Ob true [Li 3])] 3 4 2)) e51 Hn)) Hn) Hn)) (Hz (Hk (Hz (Hc none (Hz Hn) (Hz (Hc none (Hz Hn) (Hz Hn)))))))))))))
def p50 : PI := Pz (Pz (Pz (Pz (Pz (Pz (Ps (Pz (Pc e221 (Ps (Ps (Pz (Pc (E2 (B.cmp (BinOp.geq)) e46 (N 50)) (Ps (Ps (Pi [([], Sc 49 [v 0, Ad (v 1) e197, N 0] 3 2)]) (Ps (Pi [([], Sc 49 [v 0, Ad (v 1) e43, v 3] 5 2)]) (Pi [([], Sc 49 [v 0, Ad (v 1) e196, v 5] 7 2)]))) (Pi [([], Sm 3 [v 7, v 4, v 6, v 8])])) (Ps Pk (Pi [([], Sm 3 [N 0, Ad (v 1) e197, Ad (v 1) e43, Ad (v 1) e196])])))) (Pi [([], Sc 48 [v 0, v 4, v 5, v 6, v 3] 7 2)])) (Pi [([], Sm 3 [v 7, v 8])])) (Ps Pk (Pi [([], Sm 3 [N 0, Ad (v 1) e43])])))) (Pz (Pb 0 (Pz (Pc (Ee (v 3) (N 0)) (Pz (Pr [v 4, N 1])) (Pz (Pc (Ee (v 3) (N 12)) (Pz (Pr [v 4, N 2])) (Pz (Pr [v 4, N 0]))))))))))))))
theorem i50 : Qi 50 p50 := zab (S := s50) (no0 := 1) (h := h50) tabOk (by kernel_rfl) Go.Proofs.Tryz.func247 rfl (by kernel_rfl) (by kernel_rfl)
def h51 : Hint := Hz (Hz (Hb e103 (Hl (Jn [(0, [], Js 0 44), (8, [], J 4), (9, [], J 5)] [(0, [], Or true 44 (v 3))] 3 3 1) (Hs (Hz e7) (Hb (Jn [(0, [], Js 0 44), (8, [], SV.s (Sq (Leaf.int (.i64) (Ad (v 4) (N 1))))), (9, [], SV.s (Sq (Leaf.int (.i64) e194)))] [(0, [], Or true 44 (v 6))] 6 1 1) e122)))))
def p51 : PI := Ps (Pz (Pz (Pb 0 (Ps (Pi [([], Sm 3 [v 0, v 1, Sb (v 2) (N 1)])]) (Pl (Ps (Ps (Pz (Pc (Lt (v 4) (v 5)) Pk e35)) (Pb 1 (Ps (Ps (Pi [([], Sk (An e92 (Lt (v 5) e219))), ([], Ss 6 (Ix (v 3) (v 5))), ([], Sk e186), ([], Ss 7 (Ix (v 3) (v 4))), ([], Sk e186), ([], Ss 8 (E3 (Tr.setI) (v 3) (v 4) e151)), ([], Sk (An e92 (Lt (v 5) e156))), ([], Ss 9 (E3 (Tr.setI) (v 8) (v 5) e83))]) e120) (Pi [([], Sm 6 [v 9])])))) (Pi [([], Sm 3 [v 6, Ad (v 4) (N 1), Sb (v 5) (N 1)])]))))))) e145
theorem i51 : Qi 51 p51 := zab (S := s51) (no0 := 1) (h := h51) tabOk (by kernel_rfl) Go.Proofs.Tryz.func248 rfl (by kernel_rfl) (by kernel_rfl)
def h52 : Hint := Hz (Hz (Hs (Hz (Hb e103 (Hl (Jn [(0, [], Js 0 44), (1, [], J 1), (2, [], J 2), (3, [], SV.s e3), (9, [], J 4), (10, [], J 5)] [(0, [], Or true 44 (v 3))] 3 3 1) (Hs (Hz e7) (Hs (Hb (Jn [(0, [], Js 0 44), (1, [], J 1), (2, [], J 2), (3, [], SV.s e3), (9, [], J 7), (10, [], J 5)] [(0, [], Or true 44 (v 6))] 6 2 1) (Hs (Hb e57 (Hl e57 (Hs (Hs (Hr (mt mo (mt mo (mt mo (mt mo (mt mo (mt mo (mt mo (mt mo (mt e5 (mf mo e160))))))))))) e7) (Hb (Jn [(0, [], Js 0 44), (1, [], J 1), (2, [], J 2), (3, [], SV.s e3), (9, [], SV.s (Sq (Leaf.int (.i64) (Ad (v 6) (N 1))))), (10, [], J 5)] [(0, [], Or true 44 (v 3))] 11 0 1) Hn)))) (Hs e4 (Hs e4 (Hs (Hr e93) (Hs (Hz (Hc (some e55) (Hz (Hb e55 (Hl (Jn [(0, [], Js 0 44), (1, [], J 1), (2, [], J 2), (3, [], SV.s e3), (9, [], J 6), (10, [], J 5), (11, [], J 12)] [(0, [], Or true 44 (v 11))] 11 2 1) (Hs (Hz e7) (Hs (Hb (Jn [(0, [], Js 0 44), (1, [], J 1), (2, [], J 2), (3, [], SV.s e3), (9, [], J 6), (10, [], J 5), (11, [], J 12)] [(0, [], Or true 44 (v 13))] 13 1 1) e237) Hn))))) Hn)) (Hz (Hc (some e54) (Hz (Hb e54 (Hl (Jn [(0, [], Js 0 44), (1, [], J 1), (2, [], J 2), (3, [], SV.s e3), (9, [], J 6), (10, [], J 5), (12, [], J 13)] [(0, [], Or true 44 (v 12))] 12 2 1) (Hs (Hz e7) (Hs (Hb (Jn [(0, [], Js 0 44), (1, [], J 1), (2, [], J 2), (3, [], SV.s e3), (9, [], J 6), (10, [], J 5), (12, [], J 13)] [(0, [], Or true 44 (v 14))] 14 1 1) e237) Hn))))) Hn)))))))) Hn))))) (Hz Hn)))
def p52 : PI := Pz (Pz (Ps (Pz (Pb 0 (Ps (Pi [([], Sm 3 [v 0, Ad (v 1) (N 1), N 0])]) (Pl (Ps (Ps (Pz (Pc (Lt (v 5) (N 5)) Pk e35)) (Ps (Pb 1 (Ps (Ps (Pb 2 (Ps (Pi [([], Sm 6 [v 4])]) (Pl (Ps (Ps (Ps (Pi [([(Lt (v 6) (v 2), true)], Sk e101), ([(Lt (v 6) (v 2), true)], Ss 7 (Ix (v 3) (v 6))), ([(Lt (v 6) (v 2), true)], Sk e296), ([(Lt (v 6) (v 2), true)], Ss 8 (Ix (v 3) e17)), ([(Lt (v 6) (v 2), true)], Sc 40 [Ce 0 (v 7), Ce 1 (v 7), Ce 0 (v 8), Ce 1 (v 8)] 9 1), ([], Ss 10 (E3 (Tr.ite) (Lt (v 6) (v 2)) (E1 (U.not) (Lt (v 9) (N 0))) (Xf)))]) (Pc (v 10) Pk (Ps (Pi [([], Sm 6 [v 6])]) (Px 2)))) (Pb 3 (Pz (Pi [([], Sm 11 [])])))) (Pi [([], Sm 6 [Ad (v 6) (N 1)])]))))) (Ps (Pz (Pc (Ee (v 6) (v 2)) (Pz (Pr [v 3, Xt])) Pk)) (Ps (Pz (Pc (Lt e46 (N 50)) (Pz (Pr [v 3, Xf])) Pk)) (Ps (Pi [([], Sk e296), ([], Ss 7 (Ix (v 3) e17)), ([], Sk e101), ([], Ss 8 (Ix (v 3) (v 6))), ([], Sk e101), ([], Ss 9 (E3 (Tr.setI) (v 3) (v 6) e83)), ([], Sk e240), ([], Ss 10 (E3 (Tr.setI) (v 9) e17 (E2 (B.cons) e185 (E2 (B.cons) e45 Xn))))]) (Ps (Pz (Pc (E2 (B.cmp (BinOp.geq)) (Sb (v 6) (v 1)) (N 2)) (Ps (Pz (Pb 4 (Ps (Pi [([], Sm 11 [v 10, Sb (v 6) (N 1)])]) (Pl (Ps (Ps (Pz (Pc (E2 (B.cmp (BinOp.geq)) (v 12) (N 1)) Pk (Ps e76 (Px 4)))) (Ps (Pb 5 (Ps (Ps (Ps (Pi [([], Sk e141), ([], Ss 13 (Ix (v 11) (v 12))), ([], Sk e200), ([], Ss 14 (Ix (v 11) e59)), ([], Sc 40 [Ce 0 (v 13), Ce 1 (v 13), Ce 0 (v 14), Ce 1 (v 14)] 15 1)]) (Pc (E1 (U.not) (Lt (v 15) (N 0))) (Ps e76 (Px 4)) Pk)) (Pi [([], Sk e200), ([], Ss 16 (Ix (v 11) e59)), ([], Sk e141), ([], Ss 17 (Ix (v 11) (v 12))), ([], Sk e141), ([], Ss 18 (E3 (Tr.setI) (v 11) (v 12) e146)), ([], Sk (An (Le (N 0) e59) (Lt e59 (Ln (v 18))))), ([], Ss 19 (E3 (Tr.setI) (v 18) e59 e77))])) (Pi [([], Sm 13 [v 19])]))) (Pi []))) (Pi [([], Sm 11 [v 13, Sb (v 12) (N 1)])])))))) e76) (Ps Pk (Pi [([], Sm 11 [v 10])])))) (Pz (Pc (E2 (B.cmp (BinOp.geq)) (Sb (v 2) (v 6)) (N 2)) (Ps (Pz (Pb 6 (Ps (Pi [([], Sm 12 [v 11, Ad (v 6) (N 1)])]) (Pl (Ps (Ps (Pz (Pc (Lt (v 13) (v 2)) Pk (Ps e125 (Px 6)))) (Ps (Pb 7 (Ps (Ps (Ps (Pi [([], Sk e97), ([], Ss 14 (Ix (v 12) (v 13))), ([], Sk e224), ([], Ss 15 (Ix (v 12) e73)), ([], Sc 40 [Ce 0 (v 14), Ce 1 (v 14), Ce 0 (v 15), Ce 1 (v 15)] 16 1)]) (Pc (E1 (U.not) (Lt (v 16) (N 0))) (Ps e125 (Px 6)) Pk)) (Pi [([], Sk e224), ([], Ss 17 (Ix (v 12) e73)), ([], Sk e97), ([], Ss 18 (Ix (v 12) (v 13))), ([], Sk e97), ([], Ss 19 (E3 (Tr.setI) (v 12) (v 13) e77)), ([], Sk (An (Le (N 0) e73) (Lt e73 (Ln (v 19))))), ([], Ss 20 (E3 (Tr.setI) (v 19) e73 (E2 (B.cons) (Ce 0 (v 18)) (E2 (B.cons) (Ce 1 (v 18)) Xn))))])) (Pi [([], Sm 14 [v 20])]))) (Pi []))) (Pi [([], Sm 12 [v 14, Ad (v 13) (N 1)])])))))) e125) (Ps Pk (Pi [([], Sm 12 [v 11])]))))))))) (Pi [([], Sm 6 [v 12, v 6])]))) (Pi []))) (Pi [([], Sm 3 [v 6, v 7, Ad (v 5) (N 1)])])))))) (Pz (Pr [v 3, Xf]))))
theorem i52 : Qi 52 p52 := zab (S := s52) (no0 := 1) (h := h52) tabOk (by kernel_rfl) Go.Proofs.Tryz.func249 rfl (by kernel_rfl) (by kernel_rfl)
def h53 : Hint := Hz (Hs (Hr e1) (Hz (Hs (Hb (Jn [(11, [], J 9)] [(0, [], Or true 44 (v 8))] 8 2 1) (Hl (Jn [(0, [], Js 0 44), (1, [], J 1), (4, [], SV.s e3), (11, [], J 9), (12, [], J 10)] [(0, [], Or true 44 (v 8))] 8 3 1) (Hb (Jn [(0, [], Js 0 44), (1, [], J 1), (4, [], SV.s e3), (11, [], J 12), (12, [], J 13)] [(0, [], Or true 44 (v 11))] 11 3 1) (Hs (Hb e69 (Hl e69 (Hs (Hs e169 e7) (Hb (Jn [(0, [], Js 0 44), (1, [], J 1), (4, [], SV.s e3), (11, [], SV.s (Sq (Leaf.int (.i64) (Ad (v 11) (N 1))))), (12, [], J 10)] [(0, [], Or true 44 (v 8))] 16 0 1) Hn)))) (Hs (Hb e68 (Hl e68 (Hs e28 (Hb (Jn [(0, [], Js 0 44), (1, [], J 1), (4, [], SV.s e3), (11, [], J 11), (12, [], SV.s (Sq (Leaf.int (.i64) e59)))] [(0, [], Or true 44 (v 8))] 17 0 1) Hn)))) (Hs (Hz e7) e122)))))) (Hz Hn))))
def p53 : PI := Pz (Ps e12 (Pz (Ps (Pb 0 (Ps (Pi [([], Sm 8 [v 7, Ad (v 1) (N 1), Sb (v 2) (N 1)])]) (Pl (Ps (Pb 1 (Ps (Ps (Pb 2 (Ps (Pi [([], Sm 11 [v 9])]) (Pl (Ps (Ps (Ps (Pi [([(Le (v 11) (v 10), true)], Sk e288), ([(Le (v 11) (v 10), true)], Ss 12 (Ix (v 8) (v 1))), ([(Le (v 11) (v 10), true)], Sk e98), ([(Le (v 11) (v 10), true)], Ss 13 (Ix (v 8) (v 11))), ([(Le (v 11) (v 10), true)], Sc 40 [Ce 0 (v 12), Ce 1 (v 12), Ce 0 (v 13), Ce 1 (v 13)] 14 1), ([], Ss 15 (E3 (Tr.ite) (Le (v 11) (v 10)) (E1 (U.not) (Lt (v 14) (N 0))) (Xf)))]) (Pc (v 15) Pk (Ps e76 (Px 2)))) (Pb 3 (Pz (Pi [([], Sm 16 [])])))) (Pi [([], Sm 11 [Ad (v 11) (N 1)])]))))) (Ps (Pb 4 (Ps (Pi [([], Sm 12 [v 10])]) (Pl (Ps (Ps (Ps (Pi [([(Le (v 11) (v 12), true)], Sk e288), ([(Le (v 11) (v 12), true)], Ss 13 (Ix (v 8) (v 1))), ([(Le (v 11) (v 12), true)], Sk e277), ([(Le (v 11) (v 12), true)], Ss 14 (Ix (v 8) (v 12))), ([(Le (v 11) (v 12), true)], Sc 40 [Ce 0 (v 13), Ce 1 (v 13), Ce 0 (v 14), Ce 1 (v 14)] 15 1), ([], Ss 16 (E3 (Tr.ite) (Le (v 11) (v 12)) (Lt (v 15) (N 0)) (Xf)))]) (Pc (v 16) Pk (Ps e125 (Px 4)))) (Pb 5 (Pz (Pi [([], Sm 17 [])])))) (Pi [([], Sm 12 [Sb (v 12) (N 1)])]))))) (Ps (Pz (Pc (E2 (B.cmp (BinOp.gtr)) (v 11) (v 12)) (Ps (Pi [([], Sm 8 [v 8, v 11])]) (Px 0)) Pk)) (Ps (Pi [([], Sk e277), ([], Ss 13 (Ix (v 8) (v 12))), ([], Sk e98), ([], Ss 14 (Ix (v 8) (v 11))), ([], Sk e98), ([], Ss 15 (E3 (Tr.setI) (v 8) (v 11) (E2 (B.cons) e304 (E2 (B.cons) e198 Xn)))), ([], Sk (An e74 (Lt (v 12) e140))), ([], Ss 16 (E3 (Tr.setI) (v 15) (v 12) e147))]) e120)))) (Pi [([], Sm 11 [v 16, Ad (v 11) (N 1), Sb (v 12) (N 1)])]))) (Pi [([], Sm 8 [v 11, v 12, v 13])]))))) (Pz (Pr [v 8, v 9])))))
theorem i53 : Qi 53 p53 := zab (S := s53) (no0 := 1) (h := h53) tabOk (by kernel_rfl) Go.Proofs.Tryz.func250 rfl (by kernel_rfl) (by kernel_rfl)
def h54 : Hint := Hz (Hs (Hr e1) (Hz (Hs (Hb e39 (Hl e39 (Hs e28 (Hb (Jn [(0, [], Js 0 44), (1, [], J 1), (4, [], SV.s e3), (12, [], SV.s (Sq (Leaf.int (.i64) (Ad (v 8) (N 1))))), (13, [], SV.s e262)] [(0, [], Or true 44 (v 7))] 13 0 1) Hn)))) (Hs (Hb e70 (Hl e70 (Hs (Hs e169 e7) (Hb (Jn [(0, [], Js 0 44), (1, [], J 1), (4, [], SV.s e3), (12, [], J 8), (13, [], SV.s (Sq (Leaf.int (.i64) (Sb (v 9) (N 1)))))] [(0, [], Or true 44 (v 7))] 14 0 1) Hn)))) (Hs (Hz (Hc none e122 Hn)) (Hs (Hr e1) (Hz (Hz (Hs (Hb (Jn [(0, [], Js 0 44), (1, [], J 1), (13, [], J 15)] [(0, [], Or true 44 (v 14))] 14 2 1) (Hl (Jn [(0, [], Js 0 44), (1, [], J 1), (4, [], SV.s e3), (12, [], J 15), (13, [], J 16)] [(0, [], Or true 44 (v 14))] 14 3 1) (Hb (Jn [(0, [], Js 0 44), (1, [], J 1), (4, [], SV.s e3), (12, [], J 18), (13, [], J 19)] [(0, [], Or true 44 (v 17))] 17 3 1) (Hs (Hb e65 (Hl e65 (Hs e28 (Hb (Jn [(0, [], Js 0 44), (1, [], J 1), (4, [], SV.s e3), (12, [], SV.s (Sq (Leaf.int (.i64) (Ad (v 17) (N 1))))), (13, [], J 16)] [(0, [], Or true 44 (v 14))] 22 0 1) Hn)))) (Hs (Hb e64 (Hl e64 (Hs (Hs e169 e7) (Hb (Jn [(0, [], Js 0 44), (1, [], J 1), (4, [], SV.s e3), (12, [], J 17), (13, [], SV.s (Sq (Leaf.int (.i64) (Sb (v 18) (N 1)))))] [(0, [], Or true 44 (v 14))] 23 0 1) Hn)))) (Hs (Hz e7) e122)))))) e122)))))))))
def p54 : PI := Pz (Ps e12 (Pz (Ps (Pb 0 (Ps (Pi [([], Sm 8 [Ad (v 1) (N 1)])]) (Pl (Ps (Ps (Ps (Pi [([(Le (v 8) e85, true)], Sk e38), ([(Le (v 8) e85, true)], Ss 9 e257), ([(Le (v 8) e85, true)], Sk e152), ([(Le (v 8) e85, true)], Ss 10 e258), ([(Le (v 8) e85, true)], Sc 40 [Ce 0 (v 9), Ce 1 (v 9), Ce 0 (v 10), Ce 1 (v 10)] 11 1), ([], Ss 12 (E3 (Tr.ite) (Le (v 8) e85) (Lt (v 11) (N 0)) (Xf)))]) (Pc (v 12) Pk (Ps (Pi [([], Sm 8 [v 8])]) (Px 0)))) (Pb 1 (Pz (Pi [([], Sm 13 [])])))) (Pi [([], Sm 8 [Ad (v 8) (N 1)])]))))) (Ps (Pb 2 (Ps (Pi [([], Sm 9 [Sb (v 2) (N 1)])]) (Pl (Ps (Ps (Ps (Pi [([(Le (v 8) (v 9), true)], Sk e66), ([(Le (v 8) (v 9), true)], Ss 10 e256), ([(Le (v 8) (v 9), true)], Sk e152), ([(Le (v 8) (v 9), true)], Ss 11 e258), ([(Le (v 8) (v 9), true)], Sc 40 [Ce 0 (v 10), Ce 1 (v 10), Ce 0 (v 11), Ce 1 (v 11)] 12 1), ([], Ss 13 (E3 (Tr.ite) (Le (v 8) (v 9)) (E1 (U.not) (Lt (v 12) (N 0))) (Xf)))]) (Pc (v 13) Pk (Ps e289 (Px 2)))) (Pb 3 (Pz (Pi [([], Sm 14 [])])))) (Pi [([], Sm 9 [Sb (v 9) (N 1)])]))))) (Ps (Pz (Pc (E2 (B.cmp (BinOp.gtr)) (v 8) (v 9)) (Ps (Pi [([], Sk e152), ([], Ss 10 e258), ([], Sk e66), ([], Ss 11 e256), ([], Sk e66), ([], Ss 12 (E3 (Tr.setI) (v 7) (v 9) e79)), ([], Sk (An e18 (Lt (v 1) e172))), ([], Ss 13 (E3 (Tr.setI) (v 12) (v 1) e78))]) (Pz (Pr [v 13, v 9, Xt]))) Pk)) (Ps (Pi [([], Sk e66), ([], Ss 10 e256), ([], Sk e38), ([], Ss 11 e257), ([], Sk e38), ([], Ss 12 (E3 (Tr.setI) (v 7) (v 8) e79)), ([], Sk (An (Le (N 0) (v 9)) (Lt (v 9) e172))), ([], Ss 13 (E3 (Tr.setI) (v 12) (v 9) e78))]) (Pz (Pz (Ps (Pb 4 (Ps (Pi [([], Sm 14 [v 13, Ad (v 8) (N 1), Sb (v 9) (N 1)])]) (Pl (Ps (Pb 5 (Ps (Ps (Pb 6 (Ps (Pi [([], Sm 17 [v 15])]) (Pl (Ps (Ps (Ps (Pi [([(Le (v 17) (v 16), true)], Sk e96), ([(Le (v 17) (v 16), true)], Ss 18 (Ix (v 14) (v 17))), ([(Le (v 17) (v 16), true)], Sk e149), ([(Le (v 17) (v 16), true)], Ss 19 e236), ([(Le (v 17) (v 16), true)], Sc 40 [Ce 0 (v 18), Ce 1 (v 18), Ce 0 (v 19), Ce 1 (v 19)] 20 1), ([], Ss 21 (E3 (Tr.ite) (Le (v 17) (v 16)) (Lt (v 20) (N 0)) (Xf)))]) (Pc (v 21) Pk (Ps (Pi [([], Sm 17 [v 17])]) (Px 6)))) (Pb 7 (Pz (Pi [([], Sm 22 [])])))) (Pi [([], Sm 17 [Ad (v 17) (N 1)])]))))) (Ps (Pb 8 (Ps (Pi [([], Sm 18 [v 16])]) (Pl (Ps (Ps (Ps (Pi [([(Le (v 17) (v 18), true)], Sk e177), ([(Le (v 17) (v 18), true)], Ss 19 (Ix (v 14) (v 18))), ([(Le (v 17) (v 18), true)], Sk e149), ([(Le (v 17) (v 18), true)], Ss 20 e236), ([(Le (v 17) (v 18), true)], Sc 40 [Ce 0 (v 19), Ce 1 (v 19), Ce 0 (v 20), Ce 1 (v 20)] 21 1), ([], Ss 22 (E3 (Tr.ite) (Le (v 17) (v 18)) (E1 (U.not) (Lt (v 21) (N 0))) (Xf)))]) (Pc (v 22) Pk (Ps (Pi [([], Sm 18 [v 18])]) (Px 8)))) (Pb 9 (Pz (Pi [([], Sm 23 [])])))) (Pi [([], Sm 18 [Sb (v 18) (N 1)])]))))) (Ps (Pz (Pc (E2 (B.cmp (BinOp.gtr)) (v 17) (v 18)) (Ps (Pi [([], Sm 14 [v 14, v 18])]) (Px 4)) Pk)) (Ps (Pi [([], Sk e177), ([], Ss 19 (Ix (v 14) (v 18))), ([], Sk e96), ([], Ss 20 (Ix (v 14) (v 17))), ([], Sk e96), ([], Ss 21 (E3 (Tr.setI) (v 14) (v 17) (E2 (B.cons) (Ce 0 (v 19)) (E2 (B.cons) (Ce 1 (v 19)) Xn)))), ([], Sk (An (Le (N 0) (v 18)) (Lt (v 18) (Ln (v 21))))), ([], Ss 22 (E3 (Tr.setI) (v 21) (v 18) (E2 (B.cons) e199 (E2 (B.cons) e148 Xn))))]) e120)))) (Pi [([], Sm 17 [v 22, Ad (v 17) (N 1), Sb (v 18) (N 1)])]))) (Pi [([], Sm 14 [v 17, v 18, v 19])]))))) (Ps (Pi [([], Sk e149), ([], Ss 16 e236), ([], Sk e178), ([], Ss 17 (Ix (v 14) (v 15))), ([], Sk e178), ([], Ss 18 (E3 (Tr.setI) (v 14) (v 15) e146)), ([], Sk (An e18 (Lt (v 1) (Ln (v 18))))), ([], Ss 19 (E3 (Tr.setI) (v 18) (v 1) e77))]) (Pz (Pr [v 19, v 15, Xf]))))))))))))
theorem i54 : Qi 54 p54 := zab (S := s54) (no0 := 1) (h := h54) tabOk (by kernel_rfl) Go.Proofs.Tryz.func251 rfl (by kernel_rfl) (by kernel_rfl)
def h55 : Hint := Hz (Hz (Hk (Hl (Jn [(0, [], Js 0 44), (1, [], J 5), (2, [], J 2), (3, [], J 6), (4, [], SV.s e3), (10, [], SV.s e63), (11, [], SV.s e63)] [(0, [], Or true 44 (v 4))] 4 3 1) (Hb (Jn [(0, [], Js 0 44), (1, [], J 8), (2, [], J 2), (3, [], J 9), (4, [], SV.s e3), (10, [], SV.s e63), (11, [], SV.s e63)] [(0, [], Or true 44 (v 7))] 7 3 1) (Hz (Hs e4 (Hs e4 (Hs (Hz (Hc (some (Jn [(0, [], Js 0 44), (1, [], J 5), (2, [], J 2), (3, [], J 8), (4, [], SV.s e3), (10, [], SV.s e63), (11, [], SV.s e63), (12, [], SV.s e112)] [(0, [], Or true 44 (v 7))] 7 2 1)) (Hz Hn) Hn)) (Hz (Hs (Hz (Hc (some (Jn [(0, [], Js 0 44), (1, [], J 5), (2, [], J 2), (3, [], J 8), (4, [], SV.s e3), (10, [], SV.s e63), (11, [], SV.s e63), (12, [], SV.s e112), (13, [], J 12), (14, [], J 13)] [(0, [], Or true 44 (v 11))] 11 3 1)) e51 Hn)) (Hs (Hz (Hc (some (Jn [(0, [], Js 0 44), (1, [], J 5), (2, [], J 2), (3, [], J 8), (4, [], SV.s e3), (10, [], SV.s e63), (11, [], SV.s e63), (12, [], SV.s e112), (13, [], J 12)] [(0, [], Or true 44 (v 16))] 16 1 1)) (Hz e7) Hn)) (Hs (Hs e169 e260) (Hz (Hz (Hz (Hz (Hz (Hc none (Hz (Hint.stuck)) (Hz (Hint.stuck))))))))))))))))))))
def p55 : PI := Pz (Pz (Pb 0 (Ps (Pi [([], Sm 4 [v 0, v 1, v 3])]) (Pl (Ps (Pb 1 (Pz (Ps (Pz (Pc (Le (Sb (v 2) (v 5)) (N 12)) (Ps (Pi [([], Sc 41 [v 4, v 5, v 2] 7 1)]) e298) Pk)) (Ps (Pz (Pc (Ee (v 6) (N 0)) (Ps (Pi [([], Sc 43 [v 4, v 5, v 2] 7 1)]) e298) Pk)) (Ps (Pz (Pc (E1 (U.not) (Xt)) (Ps (Ps (Pi [([], Sc 46 [v 4, v 5, v 2] 7 1)]) (Pi [])) (Pi [([], Sm 7 [v 7, Sb (v 6) (N 1)])])) (Ps Pk (Pi [([], Sm 7 [v 4, v 6])])))) (Ps (Pi [([], Sc 50 [v 7, v 5, v 2] 9 2)]) (Ps (Pz (Pc (Ee (v 10) (N 2)) (Ps (Ps (Pi [([], Sc 51 [v 7, v 5, v 2] 11 1)]) e120) (Pi [([], Sm 11 [v 11, Sb e85 (Sb (v 9) (v 5)), N 1])])) (Ps Pk (Pi [([], Sm 11 [v 7, v 9, v 10])])))) (Ps (Ps (Pi [([], Ss 14 (E3 (Tr.ite) (Xt) (Xt) (Xf))), ([], Ss 15 (E3 (Tr.ite) (v 14) (Ee (v 13) (N 1)) (Xf)))]) (Pc (v 15) (Ps (Ps (Pi [([], Sc 52 [v 11, v 5, v 2] 16 2)]) (Pc (v 17) (Pr [v 16]) Pk)) (Pi [([], Sm 16 [v 16])])) (Ps Pk (Pi [([], Sm 16 [v 11])])))) (Ps (Ps (Pi [([(E2 (B.cmp (BinOp.gtr)) (v 5) (N 0), true)], Sk (An (Le (N 0) e194) (Lt e194 (Ln (v 16))))), ([(E2 (B.cmp (BinOp.gtr)) (v 5) (N 0), true)], Ss 17 (Ix (v 16) e194)), ([(E2 (B.cmp (BinOp.gtr)) (v 5) (N 0), true)], Sk (An e74 (Lt (v 12) (Ln (v 16))))), ([(E2 (B.cmp (BinOp.gtr)) (v 5) (N 0), true)], Ss 18 (Ix (v 16) (v 12))), ([(E2 (B.cmp (BinOp.gtr)) (v 5) (N 0), true)], Sc 40 [Ce 0 (v 17), Ce 1 (v 17), Ce 0 (v 18), Ce 1 (v 18)] 19 1), ([], Ss 20 (E3 (Tr.ite) (E2 (B.cmp (BinOp.gtr)) (v 5) (N 0)) (E1 (U.not) (Lt (v 19) (N 0))) (Xf)))]) (Pc (v 20) (Ps (Pi [([], Sc 53 [v 16, v 5, v 2, v 12] 21 2)]) (Pz (Ps (Pi [([], Sm 7 [v 21, v 22, v 8])]) (Px 1)))) Pk)) (Ps (Pi [([], Sc 54 [v 16, v 5, v 2, v 12] 21 3)]) (Pz (Pz (Pz (Pz (Pc (Lt (Sb (v 22) (v 5)) (Sb (v 2) (v 22))) (Pz e115) (Pz e115)))))))))))))))) (Pi [([], Sm 4 [v 7, v 8, v 9])]))))))
theorem i55 : Qi 55 p55 := zab (S := s55) (no0 := 1) (h := h55) tabOk (by kernel_rfl) Go.Proofs.Tryz.func215 rfl (by kernel_rfl) (by kernel_rfl)
def h56 : Hint := Hz (Hz (Hk (Hl (Jn [(0, [], Js 0 44), (1, [], J 5), (2, [], J 6), (3, [], J 7), (4, [], SV.s e3), (10, [], SV.s e142), (11, [], SV.s e167)] [(0, [], Or true 44 (v 4))] 4 6 1) (Hb (Jn [(0, [], Js 0 44), (1, [], J 11), (2, [], J 12), (3, [], J 13), (4, [], SV.s e3), (10, [], SV.s e243), (11, [], SV.s (Sq (Lb (v 15))))] [(0, [], Or true 44 (v 10))] 10 6 1) (Hz (Hs e4 (Hs e4 (Hs (Hz (Hc (some (Jn [(0, [], Js 0 44), (1, [], J 5), (2, [], J 6), (3, [], J 11), (4, [], SV.s e3), (10, [], SV.s e142), (11, [], SV.s e167), (12, [], SV.s e111)] [(0, [], Or true 44 (v 10))] 10 2 1)) (Hz Hn) Hn)) (Hz (Hs (Hz (Hc (some (Jn [(0, [], Js 0 44), (1, [], J 5), (2, [], J 6), (3, [], J 11), (4, [], SV.s e3), (10, [], SV.s e142), (11, [], SV.s e167), (12, [], SV.s e111), (13, [], J 15), (14, [], J 16)] [(0, [], Or true 44 (v 14))] 14 3 1)) e51 Hn)) (Hs (Hz (Hc (some (Jn [(0, [], Js 0 44), (1, [], J 5), (2, [], J 6), (3, [], J 11), (4, [], SV.s e3), (10, [], SV.s e142), (11, [], SV.s e167), (12, [], SV.s e111), (13, [], J 15)] [(0, [], Or true 44 (v 19))] 19 1 1)) (Hz e7) Hn)) (Hs (Hs e169 e260) (Hz (Hz (Hz (Hz (Hz (Hc (some (Jn [(0, [], Js 0 44), (1, [], J 28), (2, [], J 29), (3, [], J 11), (4, [], SV.s e3), (10, [], SV.s (Sq (Lb (v 30)))), (11, [], SV.s (Sq (Lb (v 26))))] [(0, [], Or true 44 (v 27))] 27 4 1)) e51 e51))))))))))))))))))
def pq1 (z9 : Nat) : PI := Pz (Pz (Pb 0 (Ps (Pi [([], Sm 4 [v 0, v 1, v 2, v 3, Xt, Xt])]) (Pl (Ps (Pb 1 (Ps (Pz (Ps (Pz (Pc (Le (Sb (v 6) (v 5)) (N 12)) (Ps (Pi [([], Sc 41 [v 4, v 5, v 6] 10 1)]) (Pr [v 10])) Pk)) (Ps (Pz (Pc (Ee (v 7) (N 0)) (Ps (Pi [([], Sc 43 [v 4, v 5, v 6] 10 1)]) (Pr [v 10])) Pk)) (Ps (Pz (Pc (E1 (U.not) (v 8)) (Ps (Ps (Pi [([], Sc 46 [v 4, v 5, v 6] 10 1)]) (Pi [])) (Pi [([], Sm 10 [v 10, Sb (v 7) (N 1)])])) (Ps Pk (Pi [([], Sm 10 [v 4, v 7])])))) (Ps (Pi [([], Sc 50 [v 10, v 5, v 6] 12 2)]) (Ps (Pz (Pc (Ee (v 13) (N 2)) (Ps (Ps (Pi [([], Sc 51 [v 10, v 5, v 6] 14 1)]) (Pz (Pi []))) (Pi [([], Sm 14 [v 14, Sb (Sb (v 6) (N 1)) (Sb (v 12) (v 5)), N 1])])) (Ps Pk (Pi [([], Sm 14 [v 10, v 12, v 13])])))) (Ps (Ps (Pi [([], Ss 17 (E3 (Tr.ite) (v 8) (v 9) (Xf))), ([], Ss 18 (E3 (Tr.ite) (v 17) (Ee (v 16) (N 1)) (Xf)))]) (Pc (v 18) (Ps (Ps (Pi [([], Sc 52 [v 14, v 5, v 6] 19 2)]) (Pc (v 20) (Pr [v 19]) Pk)) (Pi [([], Sm 19 [v 19])])) (Ps Pk (Pi [([], Sm 19 [v 14])])))) (Ps (Ps (Pi [([(E2 (B.cmp (BinOp.gtr)) (v 5) (N 0), true)], Sk (An (Le (N 0) (Sb (v 5) (N 1))) (Lt (Sb (v 5) (N 1)) (Ln (v 19))))), ([(E2 (B.cmp (BinOp.gtr)) (v 5) (N 0), true)], Ss 20 (Ix (v 19) (Sb (v 5) (N 1)))), ([(E2 (B.cmp (BinOp.gtr)) (v 5) (N 0), true)], Sk (An (Le (N 0) (v 15)) (Lt (v 15) (Ln (v 19))))), ([(E2 (B.cmp (BinOp.gtr)) (v 5) (N 0), true)], Ss 21 (Ix (v 19) (v 15))), ([(E2 (B.cmp (BinOp.gtr)) (v 5) (N 0), true)], Sc 40 [Ce 0 (v 20), Ce 1 (v 20), Ce 0 (v 21), Ce 1 (v 21)] 22 1), ([], Ss 23 (E3 (Tr.ite) (E2 (B.cmp (BinOp.gtr)) (v 5) (N 0)) (E1 (U.not) (Lt (v 22) (N 0))) (Xf)))]) (Pc (v 23) (Ps (Pi [([], Sc 53 [v 19, v 5, v 6, v 15] 24 2)]) (Pz (Ps (Pi [([], Sm 10 [v 24, v 25, v 6, v 11, v 8, v 9])]) (Px 1)))) Pk)) (Ps (Pi [([], Sc 54 [v 19, v 5, v 6, v 15] 24 3)]) (Pz (Pz (Pz (Pz (Pc (Lt (Sb (v 25) (v 5)) (Sb (v 6) (v 25))) (Ps (Pz (Ps (Pi [([], Sc z9 [v 24, v 5, v 25, v 11] 27 1)]) (Pi []))) (Pi [([], Sm 27 [v 27, Ad (v 25) (N 1), v 6, E2 (B.cmp (BinOp.geq)) (Sb (v 25) (v 5)) (E2 (B.ar (BinOp.quo) (.i64)) (Sb (v 6) (v 5)) (N 8))])])) (Ps (Pz (Ps (Pi [([], Sc z9 [v 24, Ad (v 25) (N 1), v 6, v 11] 27 1)]) (Pi []))) (Pi [([], Sm 27 [v 27, v 5, v 25, E2 (B.cmp (BinOp.geq)) (Sb (v 6) (v 25)) (E2 (B.ar (BinOp.quo) (.i64)) (Sb (v 6) (v 5)) (N 8))])])))))))))))))))) (Pi [([], Sm 10 [v 27, v 28, v 29, v 11, v 30, v 26])]))) (Pi [([], Sm 4 [v 10, v 11, v 12, v 13, v 14, v 15])]))))))
def p56 : PI := pq1 55
theorem i56 : Qi 56 p56 := zab (S := s56) (no0 := 1) (h := h56) tabOk (by kernel_rfl) Go.Proofs.Tryz.func215 rfl (by kernel_rfl) (by kernel_rfl)
def h57 : Hint := h56
def p57 : PI := pq1 56
theorem i57 : Qi 57 p57 := zab (S := s57) (no0 := 1) (h := h57) tabOk (by kernel_rfl) Go.Proofs.Tryz.func215 rfl (by kernel_rfl) (by kernel_rfl)
def h58 : Hint := h56
def p58 : PI := pq1 57
theorem i58 : Qi 58 p58 := zab (S := s58) (no0 := 1) (h := h58) tabOk (by kernel_rfl) Go.Proofs.Tryz.func215 rfl (by kernel_rfl) (by kernel_rfl)
def h59 : Hint := h56
def p59 : PI := pq1 58
theorem i59 : Qi 59 p59 := zab (S := s59) (no0 := 1) (h := h59) tabOk (by kernel_rfl) Go.Proofs.Tryz.func215 rfl (by kernel_rfl) (by kernel_rfl)
def h60 : Hint := h56
def p60 : PI := pq1 59
theorem i60 : Qi 60 p60 := zab (S := s60) (no0 := 1) (h := h60) tabOk (by kernel_rfl) Go.Proofs.Tryz.func215 rfl (by kernel_rfl) (by kernel_rfl)
def h61 : Hint := h56
def p61 : PI := pq1 60
theorem i61 : Qi 61 p61 := zab (S := s61) (no0 := 1) (h := h61) tabOk (by kernel_rfl) Go.Proofs.Tryz.func215 rfl (by kernel_rfl) (by kernel_rfl)
def h62 : Hint := h56
def p62 : PI := pq1 61
theorem i62 : Qi 62 p62 := zab (S := s62) (no0 := 1) (h := h62) tabOk (by kernel_rfl) Go.Proofs.Tryz.func215 rfl (by kernel_rfl) (by kernel_rfl)
def h63 : Hint := h56
def p63 : PI := pq1 62
theorem i63 : Qi 63 p63 := zab (S := s63) (no0 := 1) (h := h63) tabOk (by kernel_rfl) Go.Proofs.Tryz.func215 rfl (by kernel_rfl) (by kernel_rfl)
def h64 : Hint := h56
def p64 : PI := pq1 63
theorem i64 : Qi 64 p64 := zab (S := s64) (no0 := 1) (h := h64) tabOk (by kernel_rfl) Go.Proofs.Tryz.func215 rfl (by kernel_rfl) (by kernel_rfl)
def h65 : Hint := Hz Hn
def p65 : PI := Ps (Pz (Pi [([], Sc 26 [E1 (U.conv (.u64)) e14] 1 1), ([], Sc 64 [v 0, N 0, Ln (v 0), v 1] 2 1)])) e300
theorem i65 : Qi 65 p65 := zab (S := s65) (no0 := 1) (h := h65) tabOk (by kernel_rfl) Go.Proofs.Tryz.func161 rfl (by kernel_rfl) (by kernel_rfl)
def h66 : Hint := Hz (Hs e4 (Hs (Hz (Hb (Jn [(0, [], Js 0 44)] [(0, [], Or true 44 (v 0))] 1 0 1) (Hl (Jn [(0, [], Js 0 44), (3, [], J 1)] [(0, [], Or true 44 (v 0))] 1 1 1) (Hs (Hz e7) (Hs (Hb (Jn [(0, [], Js 0 44), (3, [], J 1)] [(0, [], Or true 44 (v 0))] 2 0 1) (Hs e62 (Hc none (Hz (Hs (Hz (Hb (Jn [(0, [], Js 0 44), (3, [], J 5)] [(0, [], Or true 44 (v 4))] 4 2 1) (Hl (Jn [(0, [], Js 0 44), (3, [], J 5), (4, [], SV.s e153), (5, [], J 6)] [(0, [], Or true 44 (v 4))] 4 3 1) (Hs (Hz e7) (Hs (Hb (Jn [(0, [], Js 0 44), (3, [], J 8), (4, [], SV.s e153), (5, [], J 6)] [(0, [], Or true 44 (v 7))] 7 2 1) (Hs e62 (Hc (some (Jn [(0, [], Js 0 44), (3, [], J 10), (4, [], SV.s e153), (5, [], J 6)] [(0, [], Or true 44 (v 9))] 9 2 1)) (Hz Hn) Hn))) Hn))))) e51)) Hn))) Hn))))) (Hz Hn)))
def p66 : PI := Pz (Ps (Pz (Pc (Lt e14 (N 2)) e272 Pk)) (Ps (Pz (Pb 0 (Ps (Pi [([], Sm 1 [N 1])]) (Pl (Ps (Ps (Pz e86) (Ps (Pb 1 (Ps (Ps (Pi [([], Sk e49), ([], Ss 2 e107), ([], Sk (An (Le (N 0) e246) (Lt e246 e14))), ([], Ss 3 (Ix (v 0) e246))]) (Pc (An (Ee e158 (Ce 0 (v 3))) (Ee e184 (Ce 1 (v 3)))) (Ps (Pi [([], Sk (An e18 (An (Le (v 1) e14) (Le e14 e14))))]) (Ps (Pz (Pb 2 (Ps (Pi [([], Sm 4 [v 0, v 1, N 1])]) (Pl (Ps (Ps (Pz (Pc e281 Pk (Ps (Pi [([], Sm 4 [v 4, v 5])]) (Px 2)))) (Ps (Pb 3 (Ps (Ps (Pi [([], Sk (An e21 e281)), ([], Ss 7 e213), ([], Sk (An e130 (Lt e17 e60))), ([], Ss 8 (Ix (v 4) (E2 (B.plus) (v 1) e17)))]) (Pc (E1 (U.not) (An (Ee e216 e185) (Ee e183 e45))) (Ps (Ps (Pi [([], Sk (An e21 e281)), ([], Ss 9 e213), ([], Sk (An e92 (Lt (v 5) e44))), ([], Ss 10 (E3 (Tr.setI) (v 4) (v 5) e150))]) (Pi [])) (Pi [([], Sm 9 [v 10, Ad (v 5) (N 1)])])) (Ps Pk (Pi [([], Sm 9 [v 4, v 5])])))) (Pi [([], Sm 7 [v 9, v 10])]))) (Pi []))) e180))))) (Ps (Pi [([], Sk (An e92 (An (Le (v 5) e44) (Le e44 e44)))), ([], Ss 6 (E2 (B.cat) (E3 (Tr.ext) (v 4) (N 0) (v 5)) (E2 (B.cat) (E2 (B.rep) e286 (E2 (B.cons) (N 0) (E2 (B.cons) (N 0) Xn))) (E3 (Tr.ext) (v 4) (E2 (B.plus) (v 5) e286) e44))))]) (Ps (Pi [([], Sk (An e255 (An e92 (Le (v 5) e171))))]) (Pr [v 6, v 5]))))) Pk)) e99)) (Pi []))) e91))))) e272))
theorem i66 : Qi 66 p66 := zab (S := s66) (no0 := 1) (h := h66) tabOk (by kernel_rfl) Go.Proofs.Tryz.func165 rfl (by kernel_rfl) (by kernel_rfl)
def h67 : Hint := Hz e51
def p67 : PI := Pz (Ps (Pi [([], Sc 65 [v 0] 1 1)]) (Ps (Pi [([], Sc 66 [v 1] 2 2)]) (Pr [v 2, v 3])))
theorem i67 : Qi 67 p67 := zab (S := s67) (no0 := 1) (h := h67) tabOk (by kernel_rfl) Go.Proofs.Tryz.func101 rfl (by kernel_rfl) (by kernel_rfl)
def h68 : Hint := Hz (Hz (Hs (Hz (Hb (Jn [(3, [], Js 8 44)] [(0, [], Or false 31 (v 0)), (8, [], Or true 44 (v 2))] 2 1 9) (Hl (Jn [(0, [], Js 0 31), (3, [], Js 8 44), (9, [], Js 0 31), (10, [], SV.s e2), (11, [], J 3)] [(0, [], Or false 31 (v 0)), (8, [], Or true 44 (v 2))] 2 2 9) (Hz (Hs e7 (Hs (Hb (Jn [(0, [], Js 0 31), (3, [], Js 14 44), (9, [], Js 0 31), (10, [], SV.s e2), (11, [], J 3)] [(0, [], Or false 31 (v 0)), (14, [], Or true 44 (v 4))] 4 1 15) (Hz (Hz (Hb (Jn [(0, [], Js 0 31), (3, [], Js 14 44), (9, [], Js 0 31), (10, [], SV.s e2), (11, [], J 3)] [(0, [], Or false 31 (v 0)), (14, [], Or true 44 (v 5))] 5 1 15) (Hl (Jn [(0, [], Js 0 31), (3, [], Js 14 44), (5, [], Jp 9 0), (9, [], Js 0 31), (10, [], SV.s e2), (11, [], J 3), (18, [], SV.s e143), (19, [], J 3), (20, [], J 6)] [(0, [], Or false 31 (v 0)), (14, [], Or true 44 (v 5)), (9, [], Ob true [Leaf.int (.i64) e123, Leaf.int (.i64) e95, Lz e215])] 5 2 15) (Hz (Hs e7 (Hs (Hb (Jn [(0, [], Js 0 31), (3, [], Js 18 44), (5, [], Jp 9 0), (9, [], Js 0 31), (10, [], SV.s e2), (11, [], J 3), (18, [], SV.s e143), (19, [], J 3), (20, [], J 6)] [(0, [], Or false 31 (v 0)), (18, [], Or true 44 (v 7)), (9, [], Ob true [Leaf.int (.i64) e123, Leaf.int (.i64) e95, Lz e215])] 7 1 19) (Hz (Hz (Hc (some (Jn [(0, [], Js 0 31), (3, [], Js 18 44), (5, [], Jp 9 0), (9, [], Js 0 31), (10, [], SV.s e2), (11, [], J 3), (18, [], SV.s e143), (19, [], J 3), (20, [], J 6)] [(0, [], Or false 31 (v 0)), (18, [], Or true 44 (v 12)), (9, [], Ob true [Leaf.int (.i64) e123, Leaf.int (.i64) e95, Lz e215])] 12 1 19)) Hn Hn)))) Hn)))))))) Hn)))))) (Hz Hn)))
def p68 : PI := Pz (Ps (Pi [([], Ss 1 Xn)]) (Ps (Pz (Pb 0 (Ps e248 (Pl (Ps (Pz (Ps e34 (Ps (Pb 1 (Ps (Ps e37 (Ps (Pi [([], Sk (An e255 (An e254 (Le (v 3) e14))))]) (Pb 2 (Ps (Pi [([], Sm 5 [v 2, N 0])]) (Pl (Ps (Pz (Ps (Pc (Lt (v 6) (v 3)) Pk e209) (Ps (Pb 3 (Ps (Ps (Pi [([], Sk (An e21 (Lt (v 6) (v 3)))), ([], Ss 7 (Ix (v 0) (v 6)))]) (Ps (Pi [([], Ss 8 (E3 (Tr.ite) (E2 (B.cmp (BinOp.neq)) e183 e95) (E2 (B.scmp (BinOp.neq)) (Ce 2 (v 7)) (Exp.str [])) (Xf))), ([], Ss 9 (E3 (Tr.ite) (v 8) (E2 (B.scmp (BinOp.eql)) (Ce 2 (v 7)) e215) (Xf))), ([(v 9, true)], Ss 10 (E3 (Tr.ite) (Ee e216 (N 2)) (Xt) (Ee e123 (N 2)))), ([], Ss 11 (E3 (Tr.ite) (v 9) (v 10) (Xf)))]) (Pc (v 11) (Ps (Pi [([], Ss 12 (E2 (B.cons) (E2 (B.cons) e183 e157) Xn)), ([], Ss 13 (E2 (B.cat) (v 5) (v 12))), ([], Sk (Le (Ln (v 13)) e233))]) (Pi [([], Sm 12 [v 13])])) (Ps Pk (Pi [([], Sm 12 [v 5])]))))) (Pi [([], Sm 7 [v 12])]))) (Pi [])))) e202)))))) e136)) (Pi [])))) e81))))) (Ps (Pi [([], Sc 67 [v 2] 3 2)]) (Pr [v 3, v 4]))))
theorem i68 : Qi 68 p68 := zab (S := s68) (no0 := 1) (h := h68) tabOk (by kernel_rfl) Go.Proofs.Tryz.func59 rfl (by kernel_rfl) (by kernel_rfl)
def h69 : Hint := Hz (Hs (Hz (Hb e193 (Hl (Jn [(0, [], Js 0 3), (1, [], J 1), (7, [], SV.s e2), (8, [], J 2)] [(0, [], Or false 3 (v 0))] 2 1 1) (Hz (Hs e7 (Hs (Hb (Jn [(0, [], Js 0 3), (1, [], J 1), (7, [], SV.s e2), (8, [], J 2)] [(0, [], Or false 3 (v 0))] 3 0 1) (Hz e4)) Hn)))))) (Hz Hn))
def p69 : PI := Pz (Ps (Pz (Pb 0 (Ps e102 (Pl (Ps (Pz (Ps e29 (Ps (Pb 1 (Ps (Pz (Ps e218 (Pc (Ee (v 1) e56) (Pz e300) Pk))) e50)) (Pi [])))) e61))))) e114)
theorem i69 : Qi 69 p69 := zab (S := s69) (no0 := 1) (h := h69) tabOk (by kernel_rfl) Go.Proofs.Tryz.func103 rfl (by kernel_rfl) (by kernel_rfl)
def h70 : Hint := Hz (Hz Hn)
def p70 : PI := Pz (Ps (Pi [([], Sc 69 [v 0, v 1] 2 1)]) (Pr [E2 (B.cmp (BinOp.geq)) (v 2) (N 0)]))
theorem i70 : Qi 70 p70 := zab (S := s70) (no0 := 1) (h := h70) tabOk (by kernel_rfl) Go.Proofs.Tryz.func64 rfl (by kernel_rfl) (by kernel_rfl)
def h71 : Hint := Hz (Hz Hn)
def p71 : PI := Pz (Ps (Pi [([(Ee (v 1) (v 2), true)], Sc 70 [v 3, v 0] 4 1), ([], Ss 5 (E3 (Tr.ite) (Ee (v 1) (v 2)) (v 4) (Xf)))]) (Pr [v 5]))
theorem i71 : Qi 71 p71 := zab (S := s71) (no0 := 3) (h := h71) tabOk (by kernel_rfl) Go.Proofs.Tryz.func63 rfl (by kernel_rfl) (by kernel_rfl)
def h72 : Hint := Hz (Hs (Hz (Hb (Jn [] [(0, [], Or false 44 (v 0)), (1, [], Ob false [Li 1]), (2, [], Or false 3 (v 2)), (3, [], Ob false [Ow 2 3])] 3 0 4) (Hl (Jn [(0, [], Js 0 44), (1, [], SV.s e278), (7, [], SV.s e2), (8, [], J 3)] [(0, [], Or false 44 (v 0)), (1, [], Ob false [Li 1]), (2, [], Or false 3 (v 2)), (3, [], Ob false [Ow 2 3])] 3 1 4) (Hz (Hs e7 (Hs (Hb (Jn [(0, [], Js 0 44), (1, [], SV.s e278), (7, [], SV.s e2), (8, [], J 3)] [(0, [], Or false 44 (v 0)), (1, [], Ob false [Li 1]), (2, [], Or false 3 (v 2)), (3, [], Ob false [Ow 2 3])] 4 0 4) (Hz e4)) Hn)))))) (Hz Hn))
def p72 : PI := Pz (Ps (Pz (Pb 0 (Ps e137 (Pl (Ps (Pz (Ps e251 (Ps (Pb 1 (Ps (Pz (Ps (Pi [([], Sk e25), ([], Ss 4 e106), ([], Sc 71 [Ce 0 (v 4), Ce 1 (v 4), v 1, v 2] 5 1)]) (Pc (v 5) (Pz e145) Pk))) e121)) (Pi [])))) e129))))) e114)
theorem i72 : Qi 72 p72 := zab (S := s72) (no0 := 4) (h := h72) tabOk (by kernel_rfl) Go.Proofs.Tryz.func102 rfl (by kernel_rfl) (by kernel_rfl)
def h73 : Hint := Hz (Hz Hn)
def p73 : PI := Pz (Ps (Pi [([], Sc 72 [v 0, v 1, v 2] 3 1)]) (Pr [E2 (B.cmp (BinOp.geq)) (v 3) (N 0)]))
theorem i73 : Qi 73 p73 := zab (S := s73) (no0 := 4) (h := h73) tabOk (by kernel_rfl) Go.Proofs.Tryz.func62 rfl (by kernel_rfl) (by kernel_rfl)
def h74 : Hint := Hz (Hz Hn)
def p74 : PI := Pz (Ps (Pi [([], Sc 73 [v 1, v 0, v 2] 3 1)]) (Pr [E1 (U.not) (v 3)]))
theorem i74 : Qi 74 p74 := zab (S := s74) (no0 := 4) (h := h74) tabOk (by kernel_rfl) Go.Proofs.Tryz.func61 rfl (by kernel_rfl) (by kernel_rfl)
def h75 : Hint := Hz (Hs (Hz (Hb (Jn [] [(0, [], Or false 3 (v 0)), (1, [], Or false 44 (v 1)), (2, [], Ob false [Ow 1 44]), (3, [], Or false 3 (v 2)), (4, [], Ob false [Ow 3 3])] 3 0 5) (Hl (Jn [(0, [], Js 0 3), (1, [], SV.s e279), (7, [], SV.s e2), (8, [], J 3)] [(0, [], Or false 3 (v 0)), (1, [], Or false 44 (v 1)), (2, [], Ob false [Ow 1 44]), (3, [], Or false 3 (v 2)), (4, [], Ob false [Ow 3 3])] 3 1 5) (Hz (Hs e7 (Hs (Hb (Jn [(0, [], Js 0 3), (1, [], SV.s e279), (7, [], SV.s e2), (8, [], J 3)] [(0, [], Or false 3 (v 0)), (1, [], Or false 44 (v 1)), (2, [], Ob false [Ow 1 44]), (3, [], Or false 3 (v 2)), (4, [], Ob false [Ow 3 3])] 4 0 5) (Hz e4)) Hn)))))) (Hz Hn))
def p75 : PI := Pz (Ps (Pz (Pb 0 (Ps e137 (Pl (Ps (Pz (Ps e251 (Ps (Pb 1 (Ps (Pz (Ps (Pi [([], Sk e25), ([], Sc 74 [Ix (v 0) (v 3), v 1, v 2] 4 1)]) (Pc (v 4) (Pz e145) Pk))) e121)) (Pi [])))) e129))))) e114)
theorem i75 : Qi 75 p75 := zab (S := s75) (no0 := 5) (h := h75) tabOk (by kernel_rfl) Go.Proofs.Tryz.func60 rfl (by kernel_rfl) (by kernel_rfl)
def p76 : PI := Ps (Pi [([], Sk e18), ([], Sk (Le (v 1) (v 2))), ([], Sk (Le (v 2) e14)), ([], Sk (Le e14 (N 140737488355328)))]) (Pr [E2 (B.cat) (E3 (Tr.ext) (v 0) (N 0) (v 1)) (E3 (Tr.ext) (v 0) (v 2) e14)])
theorem i76 : Qi 76 p76 := zge (ρ := delRen 0 3 4 32) tabOk (by kernel_rfl) (E := 3) (by kernel_rfl) (nm := "slices.Delete[[]int,int]") (ta := #[32, 3]) (pa := #[32, 3, 3]) (Go.Proofs.Tryz.func65.trans (by kernel_rfl)) (by kernel_rfl) rfl
def h77 : Hint := Hz (Hs e4 (Hz (Hz (Hs (Hb (Jn [(6, [], Js 10 3)] [(0, [], Or false 31 (v 0)), (10, [], Or true 3 (v 6))] 6 1 11) (Hl (Jn [(4, [], Jp 3 0), (5, [], Jp 4 0), (6, [], Js 10 3)] [(0, [], Or false 31 (v 0)), (9, [], Or true 3 (v 6)), (3, [], Ob true [Ow 9 3]), (2, [], Or true 44 (v 3)), (4, [], Ob true [Leaf.sl 2 44 (N 0) (v 4)]), (10, [], Or true 3 (v 7))] 6 2 11) (Hs (Hz e7) (Hb (Jn [(4, [], Jp 3 0), (5, [], Jp 4 0), (6, [], Js 12 3)] [(0, [], Or false 31 (v 0)), (13, [], Or true 3 (v 8)), (3, [], Ob true [Ow 13 3]), (2, [], Or true 44 (v 3)), (4, [], Ob true [Leaf.sl 2 44 (N 0) (v 4)]), (12, [], Or true 3 (v 9))] 8 2 14) (Hz e168))))) (Hz Hn)))))
def p77 : PI := Pz (Ps e128 (Ps (Pi [([], Sc 32 [v 0] 2 1), ([], Sc 68 [v 0] 3 2)]) (Ps (Pi [([], Ss 5 Xn)]) (Ps (Pb 0 (Ps (Pi [([], Sm 6 [v 2, v 5])]) (Pl (Ps (Ps (Pz (Pc (E2 (B.cmp (BinOp.gtr)) e171 (N 0)) Pk (Ps (Pi [([], Sm 6 [v 7])]) (Px 0)))) (Pb 1 (Ps (Ps (Pi [([], Sc 75 [v 6, E3 (Tr.ext) (v 3) (N 0) (v 4), v 6] 8 1)]) (Ps (Pz (Pc (Lt (v 8) (N 0)) e84 Pk)) (Ps (Pi [([], Sk (An e253 (Lt (v 8) e171))), ([], Ss 9 (E2 (B.cons) (Ix (v 6) (v 8)) Xn)), ([], Ss 10 (E2 (B.cat) (v 7) (v 9))), ([], Sk (Le (Ln (v 10)) e139))]) (Pi [([], Sc 76 [v 6, v 8, Ad (v 8) (N 1)] 11 1)])))) (Pi [([], Sm 8 [v 11, v 10])])))) (Pi [([], Sm 6 [v 8, v 9])]))))) (Pz (Pr [v 6, Xt]))))))
theorem i77 : Qi 77 p77 := zab (S := s77) (no0 := 1) (h := h77) tabOk (by kernel_rfl) Go.Proofs.Tryz.func17 rfl (by kernel_rfl) (by kernel_rfl)
def h78 : Hint := Hz (Hs e4 (Hz (Hz (Hz (Hz (Hz (Hs e4 (Hz (Hs (Hz (Hb (Jn [(1, [], Js 1 5), (14, [], Js 3 44), (15, [], SV.s e127), (18, [], J 23)] [(0, [], Or false 5 (v 0)), (1, [], Or false 5 (v 1)), (3, [], Or true 44 (v 11))] 23 1 6) (Hl (Jn [(1, [], Js 1 5), (14, [], Js 3 44), (15, [], SV.s e127), (18, [], J 23), (102, [], Js 2 31), (103, [], SV.s e135), (104, [], J 24)] [(0, [], Or false 5 (v 0)), (1, [], Or false 5 (v 1)), (3, [], Or true 44 (v 11)), (2, [], Or true 31 (v 2))] 23 2 6) (Hz (Hs e7 (Hs (Hb (Jn [(1, [], Js 1 5), (14, [], Js 3 44), (15, [], SV.s e127), (18, [], J 25), (102, [], Js 2 31), (103, [], SV.s e135), (104, [], J 24)] [(0, [], Or false 5 (v 0)), (1, [], Or false 5 (v 1)), (3, [], Or true 44 (v 11)), (2, [], Or true 31 (v 2))] 25 1 7) (Hz (Hz (Hc (some (Jn [(1, [], Js 1 5), (14, [], Js 3 44), (15, [], SV.s e127), (18, [], J 26), (102, [], Js 2 31), (103, [], SV.s e135), (104, [], J 24)] [(0, [], Or false 5 (v 0)), (1, [], Or false 5 (v 1)), (3, [], Or true 44 (v 11)), (2, [], Or true 31 (v 2))] 26 1 7)) Hn Hn)))) Hn)))))) (Hs e4 (Hz (Hz (Hz (Hs e4 (Hs e4 (Hz e51))))))))))))))))
def p78 : PI := Pz (Ps (Pz (Pc (E2 (B.cmp (BinOp.gtr)) (Ad e14 e88) (N 1048576)) e179 Pk)) (Ps (Pi [([], Sc 8 [v 0] 2 1)]) (Ps (Pi [([], Sc 14 [v 2] 3 4)]) (Ps (Pi [([], Sc 19 [v 2] 7 4)]) (Ps (Pi [([], Sc 20 [v 2] 11 2)]) (Ps (Pi [([], Sc 21 [v 2] 13 2)]) (Ps (Ps (Pi [([], Ss 15 (E3 (Tr.ite) (E2 (B.bcmp (BinOp.neq)) (v 6) (v 10)) (Xt) (E2 (B.bcmp (BinOp.neq)) (v 3) (v 7)))), ([], Ss 16 (E3 (Tr.ite) (v 15) (Xt) (E2 (B.bcmp (BinOp.neq)) (v 4) (v 8)))), ([], Ss 17 (E3 (Tr.ite) (v 16) (Xt) (E2 (B.bcmp (BinOp.neq)) (v 5) (v 9)))), ([], Ss 18 (E3 (Tr.ite) (v 17) (Xt) (E2 (B.bcmp (BinOp.neq)) (v 12) (v 14)))), ([(v 18, false)], Ss 19 (E3 (Tr.ite) (v 5) e229 (Xf))), ([], Ss 20 (E3 (Tr.ite) (v 18) (Xt) (v 19))), ([(v 20, false)], Ss 21 (E3 (Tr.ite) (v 4) e174 (Xf))), ([], Ss 22 (E3 (Tr.ite) (v 20) (Xt) (v 21)))]) (Pc (v 22) e53 Pk)) (Pz (Ps (Pz (Pb 0 (Ps (Pi [([], Sm 23 [N 0, N 0])]) (Pl (Ps (Pz (Ps (Pc e301 Pk (Ps e275 (Px 0))) (Ps (Pb 1 (Ps (Ps (Pi [([], Sk (An (Le (N 0) (v 24)) e301)), ([], Ss 25 (Ix (v 2) (v 24)))]) (Pz (Pc (Ee (Ce 0 (v 25)) (N 1)) (Pz (Pi [([], Sm 26 [Ad (v 23) (N 1)])])) (Ps Pk (Pi [([], Sm 26 [v 23])]))))) e274)) (Pi [])))) e188))))) (Ps (Ps (Pi [([], Ss 24 (E3 (Tr.ite) (v 12) (E2 (B.cmp (BinOp.neq)) e226 (v 23)) (Xf)))]) (Pc (v 24) e53 Pk)) (Ps (Pi [([], Sc 23 [v 1] 25 2)]) (Ps (Pi [([], Sc 34 [v 25, v 26] 27 2)]) (Ps (Pi [([], Sc 36 [v 25, v 26] 29 2)]) (Ps (Ps (Pi [([(E2 (B.bcmp (BinOp.neq)) (v 28) (v 30), false)], Sc 37 [v 27, v 29] 31 1), ([], Ss 32 (E3 (Tr.ite) (E2 (B.bcmp (BinOp.neq)) (v 28) (v 30)) (Xt) (E1 (U.not) (v 31))))]) (Pc (v 32) e53 Pk)) (Ps (Pz (Pc (E1 (U.not) (v 28)) (Pz (Pr [Ee (Ln (v 27)) (N 0)])) Pk)) (Ps (Pi [([], Sc 14 [v 27] 33 4)]) (Ps (Pi [([], Sc 77 [v 27] 37 2)]) (Ps (Pi [([], Ss 39 (E3 (Tr.ite) (v 35) (v 36) (Xf))), ([], Ss 40 (E3 (Tr.ite) (v 39) (v 38) (Xf)))]) (Pr [v 40])))))))))))))))))))
theorem i78 : Qi 78 p78 := zab (S := s78) (no0 := 2) (h := h78) tabOk (by kernel_rfl) Go.Proofs.Tryz.func3 rfl (by kernel_rfl) (by kernel_rfl)
def ps : List PI := [p0, p1, p2, p3, p4, p5, p6, p7, p8, p9, p10, p11, p12, p13, p14, p15, p16, p17, p18, p19, p20, p21, p22, p23, p24, p25, p26, p27, p28, p29, p30, p31, p32, p33, p34, p35, p36, p37, p38, p39, p40, p41, p42, p43, p44, p45, p46, p47, p48, p49, p50, p51, p52, p53, p54, p55, p56, p57, p58, p59, p60, p61, p62, p63, p64, p65, p66, p67, p68, p69, p70, p71, p72, p73, p74, p75, p76, p77, p78]
theorem all : AllInst Go.Proofs.Tryz.prog tab sigs ps 0 := ⟨i0, i1, i2, i3, i4, i5, i6, i7, i8, i9, i10, i11, i12, i13, i14, i15, i16, i17, i18, i19, i20, i21, i22, i23, i24, i25, i26, i27, i28, i29, i30, i31, i32, i33, i34, i35, i36, i37, i38, i39, i40, i41, i42, i43, i44, i45, i46, i47, i48, i49, i50, i51, i52, i53, i54, i55, i56, i57, i58, i59, i60, i61, i62, i63, i64, i65, i66, i67, i68, i69, i70, i71, i72, i73, i74, i75, i76, i77, i78, trivial⟩
end Gp.YtddabbooahooeaaGreatDoor
