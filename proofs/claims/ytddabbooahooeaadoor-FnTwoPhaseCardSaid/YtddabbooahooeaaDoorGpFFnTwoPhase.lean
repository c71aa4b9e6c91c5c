/- Gp: the seat's functions as pure programs; each checked by the kernel. -/
import Derived.Test.YtddabbooahooeaaDoorGpCtl5
import Derived.Test.YtddabbooahooeaaDoorGpTrim
import Derived.Test.YtddabbooahooeaaDoorTl
import Derived.Test.YtddabbooahooeaaDoorGpDel
import Derived.Test.YtddabbooahooeaaDoorGpT
set_option linter.unusedVariables false
set_option linter.unusedSimpArgs false
set_option maxRecDepth 100000
namespace Gp.YtddabbooahooeaaDoor
open Go Gp
abbrev v := @Exp.var
abbrev N := @Exp.int
abbrev E2 := @Exp.bin
abbrev E1 := @Exp.un
abbrev E3 := @Exp.tri
abbrev Hs := @Hint.seq
abbrev Hn := @Hint.nil
abbrev Hc := @Hint.cond
abbrev Hr := @Hint.reg
abbrev Hb := @Hint.block
abbrev Hl := @Hint.loop
abbrev Ps := @PI.seq
abbrev Pi := @PI.sis
abbrev Pk := @PI.skip
abbrev Pc := @PI.cond
abbrev Pb := @PI.block
abbrev Pl := @PI.loop
abbrev Px := @PI.exit
abbrev Pr := @PI.ret
abbrev Sc := @SI.call
abbrev Ss := @SI.set
abbrev Sm := @SI.mov
abbrev Sk := @SI.chk
abbrev Or := @Obj.row
abbrev Ob := @Obj.box
abbrev Ow := @Leaf.slw
abbrev Lb := @Leaf.bool
abbrev Lp := @Leaf.pb
abbrev I (n : Nat) : S1 := .one (.int .i64 (.var n))
abbrev J (n : Nat) : SV := .s (I n)
abbrev Li (n : Nat) : Leaf := .int .i64 (.var n)
abbrev Lu (n : Nat) : Leaf := .int .u64 (.var n)
abbrev Ad (a b : Exp) : Exp := .bin (.ar .add .i64) a b
abbrev Sb (a b : Exp) : Exp := .bin (.ar .sub .i64) a b
abbrev An (a b : Exp) : Exp := .bin .and a b
abbrev Le (a b : Exp) : Exp := .bin (.cmp .leq) a b
abbrev Lt (a b : Exp) : Exp := .bin (.cmp .lss) a b
abbrev Ee (a b : Exp) : Exp := .bin (.cmp .eql) a b
abbrev Ix (a b : Exp) : Exp := .bin .idx a b
abbrev Ln (a : Exp) : Exp := .un .len a
abbrev Ce (j : Nat) (a : Exp) : Exp := .un (.cell j) a
abbrev Jp (o j : Nat) : SV := .s (.one (.pb o j))
abbrev Js (o t : Nat) : SV := .s (.one (.slw o t))
abbrev Jn (a : List (Nat × (Grd × SV))) (b : List (Nat × (Grd × Obj))) (x y z : Nat) : Join := ⟨⟨a, b⟩, x, y, z, []⟩
abbrev mo := @MT.o
abbrev mt := @MT.n true
abbrev mf := @MT.n false
abbrev Hk := @Hint.blockN
abbrev Lz := @Leaf.str
abbrev Xn := Exp.nil
abbrev Xf := Exp.bool false
abbrev Xt := Exp.bool true
abbrev Hz (a : Hint) : Hint := .seq .nil a
abbrev Pz (a : PI) : PI := .seq (.sis []) a
abbrev Sq := @S1.one
abbrev e215 := mt mo (mt mo mo)
abbrev e13 := mt mo (mt mo e215)
abbrev e93 := mf mo e13
abbrev e254 := mt mo e13
abbrev e25 := mt mo e254
abbrev e255 := mf mo e25
abbrev e105 := mf mo (mf mo e255)
abbrev e1 := mt mo (mt mo (mt mo (mt mo (mt mo (mt mo (mt mo (mt e93 e105)))))))
abbrev e14 := Ln (v 0)
abbrev e2 := Sq (Leaf.int (.i64) e14)
abbrev e3 := Sq (Leaf.fn 42 [])
abbrev e4 := mf mo e254
abbrev e205 := Hc none (Hz Hn) Hn
abbrev e5 := Hz e205
abbrev e6 := E1 (U.slen) (Exp.str [0, 1, 2, 2, 3, 3, 3, 3, 4, 4, 4, 4, 4, 4, 4, 4, 5, 5, 5, 5, 5, 5, 5, 5, 5, 5, 5, 5, 5, 5, 5, 5, 6, 6, 6, 6, 6, 6, 6, 6, 6, 6, 6, 6, 6, 6, 6, 6, 6, 6, 6, 6, 6, 6, 6, 6, 6, 6, 6, 6, 6, 6, 6, 6, 7, 7, 7, 7, 7, 7, 7, 7, 7, 7, 7, 7, 7, 7, 7, 7, 7, 7, 7, 7, 7, 7, 7, 7, 7, 7, 7, 7, 7, 7, 7, 7, 7, 7, 7, 7, 7, 7, 7, 7, 7, 7, 7, 7, 7, 7, 7, 7, 7, 7, 7, 7, 7, 7, 7, 7, 7, 7, 7, 7, 7, 7, 7, 7, 8, 8, 8, 8, 8, 8, 8, 8, 8, 8, 8, 8, 8, 8, 8, 8, 8, 8, 8, 8, 8, 8, 8, 8, 8, 8, 8, 8, 8, 8, 8, 8, 8, 8, 8, 8, 8, 8, 8, 8, 8, 8, 8, 8, 8, 8, 8, 8, 8, 8, 8, 8, 8, 8, 8, 8, 8, 8, 8, 8, 8, 8, 8, 8, 8, 8, 8, 8, 8, 8, 8, 8, 8, 8, 8, 8, 8, 8, 8, 8, 8, 8, 8, 8, 8, 8, 8, 8, 8, 8, 8, 8, 8, 8, 8, 8, 8, 8, 8, 8, 8, 8, 8, 8, 8, 8, 8, 8, 8, 8, 8, 8, 8, 8, 8, 8, 8, 8, 8, 8, 8, 8, 8, 8, 8, 8, 8, 8])
abbrev e7 := mf mo e215
abbrev e8 := Hc none Hn Hn
abbrev e179 := E2 (B.ar (BinOp.mul) (.i64)) (N 2) (v 5)
abbrev e9 := Ad e179 (N 1)
abbrev e49 := Ln (v 3)
abbrev e21 := Sq (Leaf.int (.i64) e49)
abbrev e10 := Jn [(4, [], Jp 1 0), (5, [], Js 2 39), (6, [], Js 3 3), (7, [], J 7), (22, [], Js 2 39), (23, [], SV.s e21), (24, [], J 11)] [(0, [], Or false 5 (v 0)), (1, [], Ob true [Ow 0 5, Li 14, Lu 15]), (2, [], Or true 39 (v 3)), (3, [], Or true 3 (v 16))] 14 3 6
abbrev e11 := Sq (Leaf.int (.i64) (Ad (N 1) (v 5)))
abbrev e236 := Le (N 0) (v 3)
abbrev e172 := Lt (v 3) e14
abbrev e32 := An e236 e172
abbrev e240 := Ix (v 0) (v 3)
abbrev e18 := Le (N 0) (v 1)
abbrev e269 := Lt (v 1) e14
abbrev e45 := An e18 e269
abbrev e95 := Ix (v 0) (v 1)
abbrev e134 := Ce 0 (v 4)
abbrev e133 := Ce 1 (v 4)
abbrev e197 := E2 (B.cons) e133 Xn
abbrev e183 := Ln (v 6)
abbrev e47 := Ce 0 (v 5)
abbrev e155 := Ce 1 (v 5)
abbrev e12 := Pi [([], Sk e32), ([], Ss 4 e240), ([], Sk e45), ([], Ss 5 e95), ([], Sk e45), ([], Ss 6 (E3 (Tr.setI) (v 0) (v 1) (E2 (B.cons) e134 e197))), ([], Sk (An e236 (Lt (v 3) e183))), ([], Ss 7 (E3 (Tr.setI) (v 6) (v 3) (E2 (B.cons) e47 (E2 (B.cons) e155 Xn))))]
abbrev e43 := Sb (v 2) (v 1)
abbrev e15 := E2 (B.ar (BinOp.quo) (.i64)) e43 (N 4)
abbrev e16 := Sb (v 6) (N 1)
abbrev e17 := mf (mf e7 mo) (mt e7 (mt mo e215))
abbrev e19 := E2 (B.ar (BinOp.xor) (.u64)) (v 0) (E2 (B.ar (BinOp.shl) (.u64)) (v 0) (N 13))
abbrev e20 := E2 (B.ar (BinOp.add) (.u64)) (E2 (B.ar (BinOp.mul) (.u64)) (v 2) (N 6364136223846793005)) (E1 (U.conv (.u64)) (v 3))
abbrev e151 := Ln (v 15)
abbrev e109 := Ad (v 19) (N 1)
abbrev e22 := E2 (B.minus) e151 e109
abbrev e63 := Le (N 0) (v 6)
abbrev e285 := Ln (v 5)
abbrev e23 := An e63 (Lt (v 6) e285)
abbrev e24 := Sq (Leaf.int (.i64) e43)
abbrev e154 := Le (N 0) (v 4)
abbrev e171 := Lt (v 4) e14
abbrev e26 := Pi [([], Sk (An e154 e171)), ([], Ss 5 (Ix (v 0) (v 4)))]
abbrev e27 := Hs (Hr (mt mo (mt mo (mt mo (mt mo (mt mo (mt mo (mt mo (mt mo (mt e93 (mf mo (mf mo e4)))))))))))) e8
abbrev e28 := Sq (Leaf.int (.i64) (N 0))
abbrev e29 := Ce 1 (v 8)
abbrev e292 := E2 (B.cons) (Xf) Xn
abbrev e30 := E2 (B.cons) (Xf) (E2 (B.cons) (Xf) (E2 (B.cons) (Xf) (E2 (B.cons) (Xf) (E2 (B.cons) (Xf) (E2 (B.cons) (Xf) (E2 (B.cons) (Xf) (E2 (B.cons) (Xf) e292)))))))
abbrev e31 := mf (mf e7 e254) mo
abbrev e33 := Ps (Pi [([], Sm 3 [v 3])]) (Px 0)
abbrev e99 := Ad (v 1) (N 1)
abbrev e34 := E2 (B.minus) e14 e99
abbrev e235 := Le (N 0) (v 8)
abbrev e35 := An e235 (Lt (v 8) (Ln (v 7)))
abbrev e286 := Ln (v 1)
abbrev e36 := An e154 (Lt (v 4) e286)
abbrev e76 := Sb (v 2) (N 1)
abbrev e246 := Sq (Leaf.int (.i64) e76)
abbrev e37 := Jn [(0, [], Js 0 55), (1, [], J 1), (4, [], SV.s e3), (12, [], J 8), (13, [], SV.s e246)] [(0, [], Or true 55 (v 7))] 8 1 1
abbrev e216 := Ps (Pi [([], Sm 1 [])]) (Px 0)
abbrev e38 := Pc e269 Pk e216
abbrev e39 := Ow 0 55
abbrev e40 := Sq (Leaf.int (.i64) e151)
abbrev e41 := E2 (B.ar (BinOp.and) (.u64)) (v 7) (E2 (B.ar (BinOp.sub) (.u64)) (v 3) (N 1))
abbrev e42 := E2 (B.ar (BinOp.mul) (.i64)) e15 (N 2)
abbrev e256 := mf e93 mo
abbrev e214 := mt mo e25
abbrev e44 := Hr (mt mo (mt e256 (mf e93 (mf mo e214))))
abbrev e46 := Pi [([], Sm 4 [])]
abbrev e48 := Ln (v 4)
abbrev e50 := Jn [(0, [], Js 0 55), (1, [], J 1), (2, [], J 2), (3, [], SV.s e3), (9, [], J 6), (10, [], J 5)] [(0, [], Or true 55 (v 12))] 12 1 1
abbrev e51 := Jn [(0, [], Js 0 55), (1, [], J 1), (2, [], J 2), (3, [], SV.s e3), (9, [], J 6), (10, [], J 5)] [(0, [], Or true 55 (v 11))] 11 1 1
abbrev e52 := Jn [(0, [], Js 0 55), (1, [], J 1), (2, [], J 2), (3, [], SV.s e3), (9, [], J 6), (10, [], J 5)] [(0, [], Or true 55 (v 3))] 6 1 1
abbrev e161 := mf mo (mf mo (mf mo e4))
abbrev e53 := mt mo (mt mo (mt mo (mt mo (mt e4 e161))))
abbrev e54 := Sb (v 12) (N 1)
abbrev e55 := E2 (B.minus) e14 (v 1)
abbrev e56 := Pi [([], Sm 1 [Ad (v 1) (N 1)])]
abbrev e57 := Sq (Lb (Xt))
abbrev e58 := Jn [(0, [], Js 0 55), (1, [], J 1), (4, [], SV.s e3), (12, [], J 17), (13, [], J 18)] [(0, [], Or true 55 (v 14))] 18 1 1
abbrev e59 := Jn [(0, [], Js 0 55), (1, [], J 1), (4, [], SV.s e3), (12, [], J 17), (13, [], J 16)] [(0, [], Or true 55 (v 14))] 17 1 1
abbrev e60 := An (Le (N 0) (v 9)) (Lt (v 9) (Ln (v 7)))
abbrev e61 := Jn [(0, [], Js 0 55), (1, [], J 1), (4, [], SV.s e3), (11, [], J 11), (12, [], J 12)] [(0, [], Or true 55 (v 8))] 12 1 1
abbrev e62 := Jn [(0, [], Js 0 55), (1, [], J 1), (4, [], SV.s e3), (11, [], J 11), (12, [], J 10)] [(0, [], Or true 55 (v 8))] 11 1 1
abbrev e64 := Hz (Hz Hn)
abbrev e65 := Jn [(0, [], Js 0 55), (1, [], J 1), (4, [], SV.s e3), (12, [], J 8), (13, [], J 9)] [(0, [], Or true 55 (v 7))] 9 1 1
abbrev e66 := Jn [(0, [], Js 0 55), (1, [], J 1), (2, [], J 2), (3, [], SV.s e3), (8, [], J 4)] [(0, [], Or true 55 (v 5))] 5 1 1
abbrev e67 := Sb (v 13) (N 1)
abbrev e68 := Lb (v 0)
abbrev e69 := Ad (v 3) (v 10)
abbrev e70 := E2 (B.cons) (Ce 0 (v 17)) (E2 (B.cons) (Ce 1 (v 17)) Xn)
abbrev e289 := Ce 1 (v 11)
abbrev e71 := E2 (B.cons) (Ce 0 (v 11)) (E2 (B.cons) e289 Xn)
abbrev e72 := E2 (B.cons) (Ce 0 (v 10)) (E2 (B.cons) (Ce 1 (v 10)) Xn)
abbrev e156 := Ad (v 3) (v 5)
abbrev e73 := An (Le (N 0) e156) (Lt e156 e48)
abbrev e122 := Le (N 0) e16
abbrev e74 := An e122 (Lt e16 e285)
abbrev e244 := Ce 1 (v 7)
abbrev e75 := E2 (B.cons) (Ce 0 (v 7)) (E2 (B.cons) e244 Xn)
abbrev e139 := Pr [v 3]
abbrev e77 := Ps (Pi [([], Ss 3 (E3 (Tr.ite) (E2 (B.cmp (BinOp.geq)) (v 0) (v 1)) (Le (v 0) (v 2)) (Xf)))]) e139
abbrev e78 := Pi [([], Sm 2 [])]
abbrev e79 := Pi [([], Sm 5 [v 5])]
abbrev e80 := Jn [(0, [], Js 0 39), (1, [], Js 1 3)] [(0, [], Or false 39 (v 0)), (1, [], Or false 3 (v 1))] 4 0 3
abbrev e81 := Le (N 0) (v 12)
abbrev e82 := Le (N 0) (v 11)
abbrev e83 := Hr (mt (mf (mf e31 mo) (mt e31 mo)) (mt (mf e31 mo) (mt e31 (mt (mf e7 e254) (mt e7 e25)))))
abbrev e84 := Jn [(0, [], Js 0 3), (1, [], J 1), (2, [], J 2), (6, [], J 4)] [(0, [], Or true 3 (v 5))] 5 1 1
abbrev e85 := Pi [([], Sm 4 [Ad (v 4) (N 1)])]
abbrev e86 := mt mo (mt mo e1)
abbrev e87 := Pz (Pr [N (-1)])
abbrev e88 := Pi [([], Sk e32), ([], Ss 4 e240)]
abbrev e89 := Ce 0 (v 2)
abbrev e132 := Ln (v 14)
abbrev e90 := An (Le (N 0) (v 17)) (Lt (v 17) e132)
abbrev e262 := Ln (v 12)
abbrev e91 := An (Le (N 0) (v 13)) (Lt (v 13) e262)
abbrev e92 := Ce 2 (v 2)
abbrev e267 := Lt (v 7) e14
abbrev e94 := Pi [([], Sk (An (Le (N 0) (v 7)) e267)), ([], Ss 8 (Ix (v 0) (v 7)))]
abbrev e96 := E3 (Tr.ite) (Ee e47 (N 3)) (E2 (B.cmp (BinOp.neq)) (Ix (v 1) (v 4)) (N 0)) (Xf)
abbrev e97 := Jn [] [(0, [], Or true 55 (v 3))] 3 1 1
abbrev e98 := E3 (Tr.ite) (E1 (U.not) (v 2)) (Xt) (E2 (B.cmp (BinOp.neq)) e286 e14)
abbrev e100 := E2 (B.ar (BinOp.xor) (.u64)) e19 (E2 (B.ar (BinOp.shr) (.u64)) e19 (N 7))
abbrev e101 := Sq (Leaf.int (.i64) (Sb (v 6) (v 5)))
abbrev e102 := Sq (Leaf.int (.i64) (Sb (v 2) (v 5)))
abbrev e103 := Ps (Pi [([], Sk (Xf))]) (Px 99999999)
abbrev e104 := Pi [([], Sm 3 [v 5, Ad (v 4) (N 1)])]
abbrev e106 := Pc e171 Pk (Ps e46 (Px 0))
abbrev e107 := Hr (mt mo (mt (mf (mf e4 mo) mo) (mf (mf e4 mo) (mf e4 e255))))
abbrev e108 := E3 (Tr.ite) (E2 (B.cmp (BinOp.neq)) e47 (N 3)) (E1 (U.not) (v 7)) (Xf)
abbrev e110 := Pz (Pi [])
abbrev e111 := Pi [([], Sm 5 [])]
abbrev e112 := Pi [([], Sm 3 [])]
abbrev e113 := Hs (Hr e1) (Hz Hn)
abbrev e114 := Ce 1 (v 2)
abbrev e115 := Ce 0 (v 8)
abbrev e116 := An (Le (N 0) (v 2)) (Lt (v 2) e14)
abbrev e117 := Pi [([], Sm 12 [v 12])]
abbrev e118 := Pi [([], Sm 11 [v 11])]
abbrev e119 := E2 (B.sidx) (v 0) (v 1)
abbrev e120 := Pz (Pr [Xf])
abbrev e121 := Pi [([], Sm 3 [Ad (v 3) (N 1)])]
abbrev e123 := Le (Ln (v 31)) (N 4398046511104)
abbrev e124 := E1 (U.slen) (v 0)
abbrev e270 := Le (N 0) e29
abbrev e125 := An e270 (Lt e29 (N 9))
abbrev e126 := Ad (v 1) (v 8)
abbrev e127 := Ad (v 1) (v 5)
abbrev e128 := Pi [([], Sm 4 [N 0])]
abbrev e129 := Pi [([], Sm 3 [N 0])]
abbrev e130 := Pi [([], Sm 1 [N 0])]
abbrev e131 := An e63 (Lt (v 6) e49)
abbrev e135 := An e81 (Lt (v 12) (Ln (v 11)))
abbrev e136 := Sq (Lb (v 8))
abbrev e137 := Pi [([], Sk (An (Le (N 0) (v 7)) (Lt (v 7) e286)))]
abbrev e138 := Sq (Leaf.sl 0 39 (N 0) (v 3))
abbrev e140 := Pc e172 Pk (Ps (Pi [([], Sm 2 [v 2])]) (Px 0))
abbrev e141 := Ln (v 8)
abbrev e142 := E2 (B.cons) (Ce 0 (v 16)) (E2 (B.cons) (Ce 1 (v 16)) Xn)
abbrev e143 := E2 (B.cons) (Ce 0 (v 14)) (E2 (B.cons) (Ce 1 (v 14)) Xn)
abbrev e144 := Ce 1 (v 20)
abbrev e145 := E3 (Tr.ite) (v 6) (Xt) (v 8)
abbrev e146 := E2 (B.cons) (Ce 0 (v 9)) (E2 (B.cons) (Ce 1 (v 9)) Xn)
abbrev e147 := E2 (B.cons) (Ce 0 (v 6)) (E2 (B.cons) (Ce 1 (v 6)) Xn)
abbrev e148 := An e18 (Lt (v 1) (Ln (v 7)))
abbrev e149 := Sq (Leaf.sl 0 55 (v 1) e55)
abbrev e257 := mf e17 mo
abbrev e150 := mf (mf e257 mo) (mt e257 (mt e17 mo))
abbrev e152 := Pi [([], Sm 5 [v 3, v 4])]
abbrev e153 := Le (N 0) (v 5)
abbrev e157 := Ow 0 39
abbrev e158 := Ce 1 (v 12)
abbrev e159 := Ad e9 (N 1)
abbrev e160 := Ad (v 3) e9
abbrev e162 := Sq (Leaf.pe 2 4 (N 0) 0)
abbrev e163 := Sq (Leaf.pe 1 4 (N 0) 0)
abbrev e164 := Hs e5 (Hz Hn)
abbrev e165 := Hr (mt mo e1)
abbrev e166 := Pz (Pr [Xf, Xf])
abbrev e167 := E1 (U.conv (.u8)) (v 5)
abbrev e168 := E1 (U.conv (.u8)) (v 3)
abbrev e169 := An e82 (Lt (v 11) e141)
abbrev e170 := Pi [([], Sm 4 [v 7, v 8, Ad (v 6) (N 1)])]
abbrev e173 := Ce 2 (v 5)
abbrev e174 := An e18 (Lt (v 1) e132)
abbrev e175 := Le (N 0) (v 15)
abbrev e176 := An e235 (Lt (v 8) (Ln (v 9)))
abbrev e177 := Pi [([], Sm 4 [v 4])]
abbrev e178 := N 1442695040888963407
abbrev e180 := Jn [] [(0, [], Or true 55 (v 4))] 4 1 1
abbrev e181 := Sb (v 5) (N 1)
abbrev e182 := Lz (v 0)
abbrev e184 := Ix (v 7) (v 8)
abbrev e185 := E2 (B.ar (BinOp.mul) (.i64)) e15 (N 3)
abbrev e186 := E2 (B.ar (BinOp.mul) (.i64)) e15 (N 1)
abbrev e187 := Ce 0 (v 20)
abbrev e188 := Ce 0 (v 12)
abbrev e189 := An (Le (N 0) e67) (Lt e67 e262)
abbrev e190 := An (Le (N 0) e54) (Lt e54 (Ln (v 11)))
abbrev e191 := Pi [([], Sm 3 [v 0, Ad (v 1) (N 1)])]
abbrev e192 := Pi [([], Sm 2 [v 4, Ad (v 3) (N 1)])]
abbrev e193 := An e270 (Lt e29 e285)
abbrev e194 := An (Le (N 0) (v 18)) (Lt (v 18) e132)
abbrev e195 := Pi [([], Sm 11 [])]
abbrev e196 := Pc (Lt (v 2) e14) Pk (Ps e78 (Px 0))
abbrev e198 := Sq (Lz (v 3))
abbrev e199 := Sq (Lb (v 9))
abbrev e200 := Sq (Lb (v 6))
abbrev e201 := Pi [([], Sm 14 [v 14, v 15, v 16])]
abbrev e202 := Ps Pk (Pi [([], Sm 3 [v 1, v 2])])
abbrev e203 := Ps Pk (Pi [([], Sm 1 [v 0, N 0])])
abbrev e204 := Ix (v 4) (E2 (B.plus) (v 1) (v 6))
abbrev e206 := E2 (B.cmp (BinOp.gtr)) (v 6) (v 1)
abbrev e207 := Ce 2 (v 4)
abbrev e208 := Pi [([], Sk e45), ([], Ss 2 e95)]
abbrev e209 := Pz (Pr [Xt])
abbrev e210 := Pi [([], Sm 2 [Ad (v 2) (N 1)])]
abbrev e211 := E2 (B.cmp (BinOp.geq)) e43 (N 8)
abbrev e212 := E1 (U.not) (v 23)
abbrev e213 := Pz (Pc (Lt (v 4) (v 2)) Pk e33)
abbrev e217 := N 17592186044416
abbrev e218 := E3 (Tr.ite) (v 12) (Xt) (v 13)
abbrev e219 := E1 (U.not) (v 3)
abbrev e220 := An e82 (Lt (v 11) (Ln (v 13)))
abbrev e221 := An (Le (N 0) e69) (Lt e69 e48)
abbrev e222 := Ce 2 (v 20)
abbrev e223 := Lt (v 23) (N 0)
abbrev e224 := Ix (v 3) (v 15)
abbrev e225 := Ix (v 14) (v 1)
abbrev e226 := Hs (Hs (Hr e53) e8) (Hr e86)
abbrev e227 := Pc e172 Pk (Ps e112 (Px 0))
abbrev e228 := E2 (B.cons) (Exp.str []) Xn
abbrev e229 := An e122 (Lt e16 (Ln (v 9)))
abbrev e230 := Sq (Leaf.sl 6 39 e109 e22)
abbrev e231 := Sq (Lb (v 10))
abbrev e232 := Sb (v 1) (N 1)
abbrev e233 := Pr [v 4]
abbrev e234 := Pi [([], Sm 2 [v 1, N 0])]
abbrev e237 := Ix (v 7) (v 9)
abbrev e238 := Ix (v 7) (v 1)
abbrev e239 := Ix (v 5) (v 6)
abbrev e241 := Ix (v 0) (v 2)
abbrev e242 := Hc none e64 Hn
abbrev e243 := Ce 2 (v 8)
abbrev e245 := Sq (Leaf.sl 0 39 e99 e34)
abbrev e247 := Sq (Leaf.int (.i64) e34)
abbrev e248 := Sq (Leaf.int (.i64) e22)
abbrev e249 := Pz (Pr [N 0])
abbrev e250 := Ps e79 (Px 2)
abbrev e251 := Lt (v 15) e49
abbrev e252 := An e175 (Lt (v 15) e132)
abbrev e253 := Ad e160 (N 1)
abbrev e258 := Sq (Lu 3)
abbrev e259 := Pz (Pr [v 0, Ln (v 0)])
abbrev e260 := Pi [([], Sm 30 [v 31])]
abbrev e261 := Pi [([], Sm 17 [v 17])]
abbrev e263 := Ln (v 10)
abbrev e264 := An e81 (Lt (v 12) e141)
abbrev e265 := Sq (Leaf.fn 24 [1, 3])
abbrev e266 := Sq (Leaf.fn 22 [2, 4])
abbrev e268 := Lt (v 6) e55
abbrev e271 := Ix (v 5) e16
abbrev e272 := Hr (mt mo (mt mo e86))
abbrev e273 := E2 (B.minus) e48 (v 5)
abbrev e274 := E1 (U.conv (.i64)) e41
abbrev e275 := An e18 (Lt (v 1) e141)
abbrev e276 := An e154 (Lt (v 4) e49)
abbrev e277 := Pi [([], Sm 4 [v 5])]
abbrev e278 := Pi [([], Sm 2 [N 0])]
abbrev e279 := Ee (Ce 1 (v 13)) e114
abbrev e280 := E2 (B.rep) (N 9) (Xf)
abbrev e281 := An e63 (Lt (v 6) e48)
abbrev e282 := An e18 (Lt (v 1) e48)
abbrev e283 := Pr [v 7]
abbrev e284 := Pr [v 2]
abbrev e287 := Lb (v 1)
abbrev e288 := Ce 2 (v 12)
abbrev e290 := An e122 (Lt e16 e49)
abbrev e291 := Sq (Leaf.fn 31 [1])
def s0 : Sig := ⟨28, [Sq (Lp 1 0)], [(0, Or false 5 (v 0)), (1, Ob true [Ow 0 5, Li 1, Lu 2])], 3, [I 2], [(1, Ob true [Ow 0 5, Li 0, Lu 1])], 3⟩
def s1 : Sig := ⟨9, [Sq (Lp 1 0), I 3], [(0, Or false 5 (v 0)), (1, Ob true [Ow 0 5, Li 1, Lu 2])], 4, [I 2], [(1, Ob true [Ow 0 5, Li 0, Lu 1])], 3⟩
def s2 : Sig := ⟨11, [Sq (Lp 1 0), I 3], [(0, Or false 5 (v 0)), (1, Ob true [Ow 0 5, Li 1, Lu 2])], 4, [Sq (Lb (v 2))], [(1, Ob true [Ow 0 5, Li 0, Lu 1])], 3⟩
def s3 : Sig := ⟨37, [Sq (Lp 1 0), Sq (Ow 2 9)], [(0, Or false 5 (v 0)), (1, Ob true [Ow 0 5, Li 1, Lu 2]), (2, Or false 9 (v 3))], 4, [Sq (Lz (v 2))], [(1, Ob true [Ow 0 5, Li 0, Lu 1])], 3⟩
def s4 : Sig := ⟨27, [Sq (Lp 1 0)], [(0, Or false 5 (v 0)), (1, Ob true [Ow 0 5, Li 1, Lu 2])], 3, [Sq (Lz (v 2))], [(1, Ob true [Ow 0 5, Li 0, Lu 1])], 3⟩
def s5 : Sig := ⟨10, [Sq e157, I 1], [(0, Or false 39 (v 0))], 2, [I 0], [], 1⟩
def s6 : Sig := ⟨8, [Sq (Lp 1 0)], [(0, Or false 5 (v 0)), (1, Ob true [Ow 0 5, Li 1, Lu 2])], 3, [Sq (Ow 19 39)], [(1, Ob true [Ow 0 5, Li 0, Lu 1]), (19, Or true 39 (v 2))], 3⟩
def s7 : Sig := ⟨4, [Sq (Ow 0 5)], [(0, Or false 5 (v 0))], 1, [Sq (Ow 2 39), Sq (Ow 3 3)], [(2, Or true 39 (v 0)), (3, Or true 3 (v 1))], 2⟩
def s8 : Sig := ⟨13, [I 0, I 1, I 2], [], 3, [Sq e68], [], 1⟩
def s9 : Sig := ⟨38, [Sq e182, Sq (Lz (v 1))], [], 2, [Sq e182], [], 1⟩
def s10 : Sig := ⟨29, [Sq e182], [], 1, [Sq e68], [], 1⟩
def s11 : Sig := ⟨12, [Sq e157], [(0, Or false 39 (v 0))], 1, [Sq e68], [], 1⟩
def s12 : Sig := ⟨31, [S1.agg [Li 0, Lz (v 1), Li 2, Li 3, Lb (v 4)], Sq (Lp 0 0)], [(0, Ob false [Li 5, Li 6, Lz (v 7)])], 8, [Sq e68], [], 1⟩
def s13 : Sig := ⟨30, [Sq (Ow 0 64), Sq (Leaf.fn 31 [1])], [(0, Or false 64 (v 0)), (1, Ob false [Li 1, Li 2, Lz (v 3)])], 4, [I 0], [], 1⟩
def s14 : Sig := ⟨15, [Sq e157, Sq (Ow 1 3)], [(0, Or false 39 (v 0)), (1, Or false 3 (v 1))], 2, [Sq (Ow 8 64)], [(8, Or true 64 (v 0))], 1⟩
def s15 : Sig := ⟨14, [Sq (Ow 0 64)], [(0, Or false 64 (v 0))], 1, [Sq e68], [], 1⟩
def s16 : Sig := ⟨5, [Sq e157, Sq (Ow 1 3)], [(0, Or false 39 (v 0)), (1, Or false 3 (v 1))], 2, [Sq e68, Sq e287], [], 2⟩
def s17 : Sig := ⟨17, [I 0, I 1, I 2], [], 3, [Sq e68], [], 1⟩
def s18 : Sig := ⟨32, [Sq e182], [], 1, [Sq e68], [], 1⟩
def s19 : Sig := ⟨16, [Sq e157], [(0, Or false 39 (v 0))], 1, [Sq e68], [], 1⟩
def s20 : Sig := ⟨18, [Sq e157, Sq (Ow 1 3), I 2, Sq (Lz (v 3))], [(0, Or false 39 (v 0)), (1, Or false 3 (v 1))], 4, [I 0, I 1, Sq (Lb (v 2)), Sq (Lb (v 3))], [], 4⟩
def s21 : Sig := ⟨6, [Sq e157, Sq (Ow 1 3)], [(0, Or false 39 (v 0)), (1, Or false 3 (v 1))], 2, [Sq e68, Sq e287], [], 2⟩
def s22 : Sig := ⟨62, [Sq (Leaf.int (.u32) (v 0))], [], 1, [I 0], [], 1⟩
def s23 : Sig := ⟨63, [Sq (Lu 0)], [], 1, [I 0], [], 1⟩
def s24 : Sig := ⟨40, [Sq (Lu 0)], [], 1, [I 0], [], 1⟩
def s25 : Sig := ⟨65, [I 0], [], 1, [Sq e68], [], 1⟩
def s26 : Sig := ⟨59, [I 0, I 1], [], 2, [Sq e68], [], 1⟩
def s27 : Sig := ⟨53, [Sq (Ow 0 3), I 1, I 2], [(0, Or true 3 (v 0))], 3, [], [(0, Or true 3 (v 0))], 1⟩
def s28 : Sig := ⟨39, [Sq (Ow 0 3), I 1, I 2, I 3], [(0, Or true 3 (v 0))], 4, [], [(0, Or true 3 (v 0))], 1⟩
def s29 : Sig := ⟨33, [Sq (Ow 0 3)], [(0, Or true 3 (v 0))], 1, [], [(0, Or true 3 (v 0))], 1⟩
def s30 : Sig := ⟨19, [Sq e157], [(0, Or false 39 (v 0))], 1, [Sq (Ow 6 3)], [(6, Or true 3 (v 0))], 1⟩
def s31 : Sig := ⟨44, [I 0, I 1], [], 2, [I 0], [], 1⟩
def s32 : Sig := ⟨43, [Sq (Ow 0 3)], [(0, Or false 3 (v 0))], 1, [I 0], [], 1⟩
def s33 : Sig := ⟨42, [S1.agg [Li 0, Li 1], S1.agg [Li 2, Li 3]], [], 4, [I 0], [], 1⟩
def s34 : Sig := ⟨75, [Sq e39, I 1, I 2, Sq (Leaf.fn 42 [])], [(0, Or true 55 (v 0))], 3, [], [(0, Or true 55 (v 0))], 1⟩
def s35 : Sig := ⟨87, [Sq e39, I 1, I 2, I 3, Sq (Leaf.fn 42 [])], [(0, Or true 55 (v 0))], 4, [], [(0, Or true 55 (v 0))], 1⟩
def s36 : Sig := ⟨76, [Sq e39, I 1, I 2, Sq (Leaf.fn 42 [])], [(0, Or true 55 (v 0))], 3, [], [(0, Or true 55 (v 0))], 1⟩
def s37 : Sig := ⟨71, [I 0], [], 1, [Sq (Lu 0)], [], 1⟩
def s38 : Sig := ⟨72, [Sq (Lp 0 0)], [(0, Ob true [Lu 0])], 1, [Sq (Lu 0)], [(0, Ob true [Lu 0])], 1⟩
def s39 : Sig := ⟨77, [Sq e39, I 1, I 2, Sq (Leaf.fn 42 [])], [(0, Or true 55 (v 0))], 3, [], [(0, Or true 55 (v 0))], 1⟩
def s40 : Sig := ⟨94, [Sq e39, I 1, I 2, Sq (Lp 1 0), Sq (Leaf.fn 42 [])], [(0, Or false 55 (v 0)), (1, Ob true [Li 3])], 4, [I 1, I 2], [(1, Ob true [Li 0])], 3⟩
def s41 : Sig := ⟨89, [Sq e39, I 1, I 2, I 3, Sq (Lp 1 0), Sq (Leaf.fn 42 [])], [(0, Or false 55 (v 0)), (1, Ob true [Li 4])], 5, [I 1], [(1, Ob true [Li 0])], 2⟩
def s42 : Sig := ⟨88, [Sq e39, I 1, Sq (Lp 1 0), Sq (Leaf.fn 42 [])], [(0, Or false 55 (v 0)), (1, Ob true [Li 2])], 3, [I 1], [(1, Ob true [Li 0])], 2⟩
def s43 : Sig := ⟨78, [Sq e39, I 1, I 2, Sq (Leaf.fn 42 [])], [(0, Or false 55 (v 0))], 3, [I 0, I 1], [], 2⟩
def s44 : Sig := ⟨79, [Sq e39, I 1, I 2, Sq (Leaf.fn 42 [])], [(0, Or true 55 (v 0))], 3, [], [(0, Or true 55 (v 0))], 1⟩
def s45 : Sig := ⟨80, [Sq e39, I 1, I 2, Sq (Leaf.fn 42 [])], [(0, Or true 55 (v 0))], 3, [Sq e287], [(0, Or true 55 (v 0))], 2⟩
def s46 : Sig := ⟨81, [Sq e39, I 1, I 2, I 3, Sq (Leaf.fn 42 [])], [(0, Or true 55 (v 0))], 4, [I 1], [(0, Or true 55 (v 0))], 2⟩
def s47 : Sig := ⟨82, [Sq e39, I 1, I 2, I 3, Sq (Leaf.fn 42 [])], [(0, Or true 55 (v 0))], 4, [I 1, Sq (Lb (v 2))], [(0, Or true 55 (v 0))], 3⟩
def s48 : Sig := ⟨64, [Sq e39, I 1, I 2, I 3, Sq (Leaf.fn 42 [])], [(0, Or true 55 (v 0))], 4, [], [(0, Or true 55 (v 0))], 1⟩
def s49 : Sig := ⟨64, [Sq e39, I 1, I 2, I 3, Sq (Leaf.fn 42 [])], [(0, Or true 55 (v 0))], 4, [], [(0, Or true 55 (v 0))], 1⟩
def s50 : Sig := ⟨64, [Sq e39, I 1, I 2, I 3, Sq (Leaf.fn 42 [])], [(0, Or true 55 (v 0))], 4, [], [(0, Or true 55 (v 0))], 1⟩
def s51 : Sig := ⟨64, [Sq e39, I 1, I 2, I 3, Sq (Leaf.fn 42 [])], [(0, Or true 55 (v 0))], 4, [], [(0, Or true 55 (v 0))], 1⟩
def s52 : Sig := ⟨64, [Sq e39, I 1, I 2, I 3, Sq (Leaf.fn 42 [])], [(0, Or true 55 (v 0))], 4, [], [(0, Or true 55 (v 0))], 1⟩
def s53 : Sig := ⟨64, [Sq e39, I 1, I 2, I 3, Sq (Leaf.fn 42 [])], [(0, Or true 55 (v 0))], 4, [], [(0, Or true 55 (v 0))], 1⟩
def s54 : Sig := ⟨64, [Sq e39, I 1, I 2, I 3, Sq (Leaf.fn 42 [])], [(0, Or true 55 (v 0))], 4, [], [(0, Or true 55 (v 0))], 1⟩
def s55 : Sig := ⟨64, [Sq e39, I 1, I 2, I 3, Sq (Leaf.fn 42 [])], [(0, Or true 55 (v 0))], 4, [], [(0, Or true 55 (v 0))], 1⟩
def s56 : Sig := ⟨64, [Sq e39, I 1, I 2, I 3, Sq (Leaf.fn 42 [])], [(0, Or true 55 (v 0))], 4, [], [(0, Or true 55 (v 0))], 1⟩
def s57 : Sig := ⟨64, [Sq e39, I 1, I 2, I 3, Sq (Leaf.fn 42 [])], [(0, Or true 55 (v 0))], 4, [], [(0, Or true 55 (v 0))], 1⟩
def s58 : Sig := ⟨41, [Sq e39, Sq (Leaf.fn 42 [])], [(0, Or true 55 (v 0))], 1, [], [(0, Or true 55 (v 0))], 1⟩
def s59 : Sig := ⟨45, [Sq e39], [(0, Or true 55 (v 0))], 1, [Sq (Leaf.sl 0 55 (N 0) (v 1))], [(0, Or true 55 (v 0))], 2⟩
def s60 : Sig := ⟨34, [Sq e39], [(0, Or true 55 (v 0))], 1, [Sq (Leaf.sl 0 55 (N 0) (v 1))], [(0, Or true 55 (v 0))], 2⟩
def s61 : Sig := ⟨20, [Sq e157], [(0, Or false 39 (v 0))], 1, [Sq (Leaf.sl 8 55 (N 0) (v 1))], [(8, Or true 55 (v 0))], 2⟩
def s62 : Sig := ⟨36, [Sq (Ow 0 3), I 1], [(0, Or false 3 (v 0))], 2, [I 0], [], 1⟩
def s63 : Sig := ⟨25, [Sq (Ow 0 3), I 1], [(0, Or false 3 (v 0))], 2, [Sq e68], [], 1⟩
def s64 : Sig := ⟨24, [S1.agg [Li 0, Li 1], Sq (Lp 0 0), Sq (Lp 2 0)], [(0, Ob false [Li 2]), (1, Or false 3 (v 3)), (2, Ob false [Ow 1 3])], 4, [Sq e68], [], 1⟩
def s65 : Sig := ⟨35, [Sq e39, Sq (Leaf.fn 24 [1, 3])], [(0, Or false 55 (v 0)), (1, Ob false [Li 1]), (2, Or false 3 (v 2)), (3, Ob false [Ow 2 3])], 3, [I 0], [], 1⟩
def s66 : Sig := ⟨23, [Sq e39, Sq (Leaf.fn 24 [1, 3])], [(0, Or false 55 (v 0)), (1, Ob false [Li 1]), (2, Or false 3 (v 2)), (3, Ob false [Ow 2 3])], 3, [Sq e68], [], 1⟩
def s67 : Sig := ⟨22, [I 0, Sq (Lp 1 0), Sq (Lp 3 0)], [(0, Or false 55 (v 1)), (1, Ob false [Ow 0 55]), (2, Or false 3 (v 2)), (3, Ob false [Ow 2 3])], 3, [Sq e68], [], 1⟩
def s68 : Sig := ⟨21, [Sq (Ow 0 3), Sq (Leaf.fn 22 [2, 4])], [(0, Or false 3 (v 0)), (1, Or false 55 (v 1)), (2, Ob false [Ow 1 55]), (3, Or false 3 (v 2)), (4, Ob false [Ow 3 3])], 3, [I 0], [], 1⟩
def s69 : Sig := ⟨26, [Sq (Ow 0 3), I 1, I 2], [(0, Or true 3 (v 0))], 3, [Sq (Ow 1 3)], [(1, Or true 3 (v 0))], 1⟩
def s70 : Sig := ⟨7, [Sq e157], [(0, Or false 39 (v 0))], 1, [Sq (Ow 11 3), Sq e287], [(11, Or true 3 (v 0))], 2⟩
def s71 : Sig := ⟨3, [Sq (Ow 0 5)], [(0, Or false 5 (v 0))], 1, [Sq e68], [], 1⟩
def sigs : List Sig := [s0, s1, s2, s3, s4, s5, s6, s7, s8, s9, s10, s11, s12, s13, s14, s15, s16, s17, s18, s19, s20, s21, s22, s23, s24, s25, s26, s27, s28, s29, s30, s31, s32, s33, s34, s35, s36, s37, s38, s39, s40, s41, s42, s43, s44, s45, s46, s47, s48, s49, s50, s51, s52, s53, s54, s55, s56, s57, s58, s59, s60, s61, s62, s63, s64, s65, s66, s67, s68, s69, s70, s71]
abbrev Qi (n : Nat) (p : PI) : Prop := Inst Go.Proofs.Tryd.prog tab sigs n p
def h0 : Hint := Hz (Hz (Hs (Hs e107 (Hc (some (Jn [(0, [], Jp 1 0), (3, [], J 3)] [(0, [], Or false 5 (v 0)), (1, [], Ob true [Ow 0 5, Li 1, Lu 2])] 3 1 2)) (Hr (mt mo (mt (mf e256 mo) (mf e256 (mf e93 (mf mo (mt mo e214))))))) Hn)) (Hz (Hz (Hs (Hs e107 e205) (Hz Hn))))))
def p0 : PI := Pz (Pz (Ps (Pz (Pc e269 (Ps (Pi [([], Sk e45)]) (Pi [([], Sm 3 [E1 (U.conv (.i64)) e95])])) (Ps Pk e129))) (Pz (Pz (Ps (Pz (Pc (Le e99 e14) (Pz (Pr [Ad (v 1) (N 1), E2 (B.ar (BinOp.add) (.u64)) e20 e178, v 3])) Pk)) (Pz (Pr [Ad (v 1) (N 1), E2 (B.ar (BinOp.add) (.u64)) e20 e178, E1 (U.conv (.i64)) (E2 (B.ar (BinOp.and) (.u64)) (E2 (B.ar (BinOp.shr) (.u64)) (E2 (B.ar (BinOp.add) (.u64)) e20 e178) (N 40)) (N 255))])))))))
theorem i0 : Qi 0 p0 := zab (S := s0) (no0 := 2) (h := h0) tabOk (by kernel_rfl) Go.Proofs.Tryd.func28 rfl (by kernel_rfl) (by kernel_rfl)
def h1 : Hint := Hz (Hs e5 (Hz (Hs (Hz (Hc (some (Jn [(1, [], J 3), (5, [], J 9)] [(0, [], Or false 5 (v 0)), (1, [], Ob true [Ow 0 5, Li 7, Lu 8])] 7 3 2)) Hn Hn)) (Hz Hn))))
def p1 : PI := Pz (Ps (Pz (Pc (Le (v 3) (N 1)) (Pz (Pr [v 1, v 2, N 0])) Pk)) (Ps (Pi [([], Sc 0 [v 0, v 1, v 2] 4 3)]) (Ps (Pz (Pc (E2 (B.cmp (BinOp.gtr)) (v 3) (N 200)) (Ps (Pi [([], Sc 0 [v 0, v 4, v 5] 7 3)]) (Pi [([], Sm 7 [v 7, v 8, Ad (E2 (B.ar (BinOp.mul) (.i64)) (v 6) (N 256)) (v 9)])])) (Ps Pk (Pi [([], Sm 7 [v 4, v 5, v 6])])))) (Ps (Pi [([], Sk (E2 (B.cmp (BinOp.neq)) (v 3) (N 0)))]) (Pr [v 7, v 8, E2 (B.ar (BinOp.rem) (.i64)) (v 9) (v 3)])))))
theorem i1 : Qi 1 p1 := zab (S := s1) (no0 := 2) (h := h1) tabOk (by kernel_rfl) Go.Proofs.Tryd.func9 rfl (by kernel_rfl) (by kernel_rfl)
def h2 : Hint := Hz (Hz Hn)
def p2 : PI := Pz (Ps (Pi [([], Sc 1 [v 0, v 1, v 2, v 3] 4 3)]) (Pr [v 4, v 5, Ee (v 6) (N 0)]))
theorem i2 : Qi 2 p2 := zab (S := s2) (no0 := 2) (h := h2) tabOk (by kernel_rfl) Go.Proofs.Tryd.func11 rfl (by kernel_rfl) (by kernel_rfl)
def h3 : Hint := Hz (Hz Hn)
def p3 : PI := Pz (Ps (Pi [([], Sc 1 [v 0, v 1, v 2, Ln (v 3)] 4 3), ([], Sk e131)]) (Pr [v 4, v 5, Ix (v 3) (v 6)]))
theorem i3 : Qi 3 p3 := zab (S := s3) (no0 := 3) (h := h3) tabOk (by kernel_rfl) Go.Proofs.Tryd.func37 rfl (by kernel_rfl) (by kernel_rfl)
def h4 : Hint := Hz e164
def p4 : PI := Pz (Ps (Ps (Pi [([], Sc 2 [v 0, v 1, v 2, N 60] 3 3)]) (Pc (v 5) (Ps (Pi [([], Ss 6 (E2 (B.cons) (Exp.str []) (E2 (B.cons) (Exp.str [65]) (E2 (B.cons) (Exp.str [49, 50, 51, 52, 53, 54, 55, 56, 57]) Xn)))), ([], Sc 3 [v 0, v 3, v 4, v 6] 7 3)]) (Pr [v 7, v 8, v 9])) Pk)) (Ps (Pi [([], Ss 6 (E2 (B.cons) (Exp.str [97]) (E2 (B.cons) (Exp.str [98]) (E2 (B.cons) (Exp.str [99]) (E2 (B.cons) (Exp.str [100]) Xn))))), ([], Sc 3 [v 0, v 3, v 4, v 6] 7 3)]) (Pr [v 7, v 8, v 9])))
theorem i4 : Qi 4 p4 := zab (S := s4) (no0 := 2) (h := h4) tabOk (by kernel_rfl) Go.Proofs.Tryd.func27 rfl (by kernel_rfl) (by kernel_rfl)
def h5 : Hint := Hz (Hs (Hz (Hb (Jn [] [(0, [], Or false 39 (v 0))] 2 0 2) (Hl (Jn [(1, [], J 1), (7, [], Js 0 39), (8, [], SV.s e2), (9, [], J 2)] [(0, [], Or false 39 (v 0))] 2 1 2) (Hz (Hs e8 (Hs (Hb (Jn [(1, [], J 1), (7, [], Js 0 39), (8, [], SV.s e2), (9, [], J 2)] [(0, [], Or false 39 (v 0))] 3 0 3) (Hz e5)) Hn)))))) (Hz Hn))
def p5 : PI := Pz (Ps (Pz (Pb 0 (Ps e278 (Pl (Ps (Pz (Ps e196 (Ps (Pb 1 (Ps (Ps (Pi [([], Sk e116), ([], Ss 3 e241)]) (Ps (Pi [([], Ss 4 (E3 (Tr.ite) (Ee (Ce 1 (v 3)) (v 1)) (Ee (Ce 0 (v 3)) (N 3)) (Xf)))]) (Pc (v 4) (Pz e284) Pk))) e112)) (Pi [])))) e210))))) e87)
theorem i5 : Qi 5 p5 := zab (S := s5) (no0 := 1) (h := h5) tabOk (by kernel_rfl) Go.Proofs.Tryd.func10 rfl (by kernel_rfl) (by kernel_rfl)
def h6 : Hint := Hz (Hz (Hz (Hz (Hs (Hz (Hc (some (Jn [(0, [], Jp 1 0), (3, [], SV.s (Sq (Leaf.nil))), (4, [], SV.s e11), (5, [], J 12)] [(0, [], Or false 5 (v 0)), (1, [], Ob true [Ow 0 5, Li 9, Lu 10])] 12 1 2)) Hn Hn)) (Hs (Hb (Jn [(0, [], Jp 1 0), (3, [], Js 6 39), (4, [], SV.s e11)] [(0, [], Or false 5 (v 0)), (1, [], Ob true [Ow 0 5, Li 13, Lu 14]), (6, [], Or true 39 (v 15))] 13 3 7) (Hl (Jn [(0, [], Jp 1 0), (3, [], Js 6 39), (4, [], SV.s e11), (5, [], J 16)] [(0, [], Or false 5 (v 0)), (1, [], Ob true [Ow 0 5, Li 13, Lu 14]), (6, [], Or true 39 (v 15))] 13 4 7) (Hs (Hz e8) (Hs (Hb (Jn [(0, [], Jp 1 0), (3, [], Js 9 39), (4, [], SV.s e11), (5, [], J 16)] [(0, [], Or false 5 (v 0)), (1, [], Ob true [Ow 0 5, Li 17, Lu 18]), (9, [], Or true 39 (v 19))] 17 3 10) (Hz (Hs (Hz (Hc (some (Jn [(0, [], Jp 1 0), (3, [], Js 6 39), (4, [], SV.s e11), (5, [], J 16), (6, [], Jp 7 0)] [(0, [], Or false 5 (v 0)), (1, [], Ob true [Ow 0 5, Li 26, Lu 27]), (6, [], Or true 39 (v 15)), (7, [], Ob true [Leaf.int (.i64) (Ad (N 1) (v 19)), Leaf.int (.i64) (Ad (N 1) (v 22)), Lz (v 29)])] 29 1 8)) Hn Hn)) Hn))) Hn)))) (Hz (Hs (Hz (Hb (Jn [(0, [], Jp 1 0), (4, [], SV.s e11), (7, [], Js 15 39)] [(0, [], Or false 5 (v 0)), (1, [], Ob true [Ow 0 5, Li 16, Lu 17]), (15, [], Or true 39 (v 18))] 16 3 16) (Hl (Jn [(0, [], Jp 1 0), (3, [], Js 6 39), (4, [], SV.s e11), (7, [], Js 15 39), (42, [], Js 6 39), (43, [], SV.s e40), (44, [], J 19)] [(0, [], Or false 5 (v 0)), (1, [], Ob true [Ow 0 5, Li 16, Lu 17]), (6, [], Or true 39 (v 15)), (15, [], Or true 39 (v 18))] 16 4 16) (Hz (Hs e8 (Hs (Hb (Jn [(0, [], Jp 1 0), (3, [], Js 6 39), (4, [], SV.s e11), (7, [], Js 22 39), (42, [], Js 6 39), (43, [], SV.s e40), (44, [], J 19)] [(0, [], Or false 5 (v 0)), (1, [], Ob true [Ow 0 5, Li 20, Lu 21]), (6, [], Or true 39 (v 15)), (22, [], Or true 39 (v 22))] 20 3 23) (Hz (Hz (Hz (Hs (Hz (Hb (Jn [(0, [], Jp 1 0), (3, [], Js 6 39), (4, [], SV.s e11), (7, [], Js 18 39), (9, [], Jp 16 0), (10, [], SV.s (Sq (Lb (v 23)))), (42, [], Js 6 39), (43, [], SV.s e40), (44, [], J 19)] [(0, [], Or false 5 (v 0)), (1, [], Ob true [Ow 0 5, Li 16, Lu 17]), (6, [], Or true 39 (v 15)), (18, [], Or true 39 (v 22)), (16, [], Ob true [Leaf.int (.i64) e187, Leaf.int (.i64) e144, Lz e222])] 23 1 20) (Hl (Jn [(0, [], Jp 1 0), (3, [], Js 6 39), (4, [], SV.s e11), (7, [], Js 18 39), (9, [], Jp 16 0), (10, [], SV.s (Sq (Lb (v 23)))), (42, [], Js 6 39), (43, [], SV.s e40), (44, [], J 19), (56, [], SV.s e230), (57, [], SV.s e248), (58, [], J 24)] [(0, [], Or false 5 (v 0)), (1, [], Ob true [Ow 0 5, Li 16, Lu 17]), (6, [], Or true 39 (v 15)), (18, [], Or true 39 (v 22)), (16, [], Ob true [Leaf.int (.i64) e187, Leaf.int (.i64) e144, Lz e222])] 23 2 20) (Hz (Hs e8 (Hs (Hb (Jn [(0, [], Jp 1 0), (3, [], Js 6 39), (4, [], SV.s e11), (7, [], Js 18 39), (9, [], Jp 16 0), (10, [], SV.s (Sq (Lb (v 25)))), (42, [], Js 6 39), (43, [], SV.s e40), (44, [], J 19), (56, [], SV.s e230), (57, [], SV.s e248), (58, [], J 24)] [(0, [], Or false 5 (v 0)), (1, [], Ob true [Ow 0 5, Li 16, Lu 17]), (6, [], Or true 39 (v 15)), (18, [], Or true 39 (v 22)), (16, [], Ob true [Leaf.int (.i64) e187, Leaf.int (.i64) e144, Lz e222])] 25 1 21) (Hz Hn)) Hn)))))) (Hz (Hc (some (Jn [(0, [], Jp 1 0), (3, [], Js 6 39), (4, [], SV.s e11), (7, [], Js 22 39), (42, [], Js 6 39), (43, [], SV.s e40), (44, [], J 19)] [(0, [], Or false 5 (v 0)), (1, [], Ob true [Ow 0 5, Li 27, Lu 28]), (6, [], Or true 39 (v 15)), (22, [], Or true 39 (v 30))] 30 1 23)) Hn Hn))))))) Hn)))))) (Hs (Hz (Hb (Jn [(7, [], Js 19 39)] [(0, [], Or false 5 (v 0)), (1, [], Ob true [Ow 0 5, Li 19, Lu 20]), (19, [], Or true 39 (v 21))] 19 3 20) (Hl (Jn [(0, [], Jp 1 0), (4, [], SV.s e11), (7, [], Js 19 39), (13, [], J 22)] [(0, [], Or false 5 (v 0)), (1, [], Ob true [Ow 0 5, Li 19, Lu 20]), (19, [], Or true 39 (v 21))] 19 4 20) (Hs (Hz e8) (Hs (Hb (Jn [(0, [], Jp 1 0), (4, [], SV.s e11), (7, [], Js 22 39), (13, [], J 22)] [(0, [], Or false 5 (v 0)), (1, [], Ob true [Ow 0 5, Li 23, Lu 24]), (22, [], Or true 39 (v 25))] 23 3 23) (Hz (Hc (some (Jn [(0, [], Jp 1 0), (4, [], SV.s e11), (7, [], Js 22 39), (13, [], J 22)] [(0, [], Or false 5 (v 0)), (1, [], Ob true [Ow 0 5, Li 27, Lu 28]), (22, [], Or true 39 (v 30))] 30 1 23)) Hn Hn))) Hn))))) (Hz Hn)))))))))
def p6 : PI := Pz (Pz (Ps (Pi [([], Sc 1 [v 0, v 1, v 2, N 4] 3 3)]) (Ps (Pi [([], Sc 1 [v 0, v 3, v 4, N 14] 6 3)]) (Ps (Ps (Pi [([], Sc 2 [v 0, v 6, v 7, N 20] 9 3)]) (Pc (v 11) (Pz (Pi [([], Sm 12 [N 50])])) (Ps Pk (Pi [([], Sm 12 [v 8])])))) (Ps (Pb 0 (Ps (Pi [([], Sm 13 [v 9, v 10, Xn, v 12])]) (Pl (Ps (Ps (Pz (Pc (E2 (B.cmp (BinOp.gtr)) (v 16) (N 0)) Pk (Ps (Pi [([], Sm 13 [v 13, v 14, v 15])]) (Px 0)))) (Ps (Pb 1 (Ps (Ps (Pi [([], Sc 1 [v 0, v 13, v 14, N 2] 17 3), ([], Sc 1 [v 0, v 17, v 18, Ad (N 1) (v 5)] 20 3), ([], Sc 4 [v 0, v 20, v 21] 23 3)]) (Ps (Ps (Pi [([], Sc 2 [v 0, v 23, v 24, N 60] 26 3)]) (Pc (v 28) (Pz (Pi [([], Sm 29 [Exp.str []])])) (Ps Pk (Pi [([], Sm 29 [v 25])])))) (Pi [([], Ss 30 (E2 (B.cons) (E2 (B.cons) (Ad (N 1) (v 19)) (E2 (B.cons) (Ad (N 1) (v 22)) (E2 (B.cons) (v 29) Xn))) Xn)), ([], Ss 31 (E2 (B.cat) (v 15) (v 30))), ([], Sk e123)]))) (Pi [([], Sm 17 [v 26, v 27, v 31])]))) (Pi []))) (Pi [([], Sm 13 [v 17, v 18, v 19, Sb (v 16) (N 1)])]))))) (Pz (Ps (Pz (Pb 2 (Ps (Pi [([], Sm 16 [v 13, v 14, Xn, N 0])]) (Pl (Ps (Pz (Ps (Pc (Lt (v 19) e151) Pk (Ps (Pi [([], Sm 16 [v 16, v 17, v 18])]) (Px 2))) (Ps (Pb 3 (Ps (Ps (Pi [([], Sk (An (Le (N 0) (v 19)) (Lt (v 19) e151))), ([], Ss 20 (Ix (v 15) (v 19)))]) (Ps (Pi [([], Ss 21 (E2 (B.cons) (E2 (B.cons) e187 (E2 (B.cons) e144 (E2 (B.cons) e222 Xn))) Xn)), ([], Ss 22 (E2 (B.cat) (v 18) (v 21))), ([], Sk (Le (Ln (v 22)) (N 4398046511104)))]) (Pz (Ps (Ps (Pi [([], Sk (An (Le (N 0) e109) (An (Le e109 e151) (Le e151 e151))))]) (Pb 4 (Ps (Pi [([], Sm 23 [Xf, N 0])]) (Pl (Ps (Pz (Ps (Pc (Lt (v 24) e22) Pk (Ps (Pi [([], Sm 23 [v 23])]) (Px 4))) (Ps (Pb 5 (Ps (Ps (Pi [([], Sk (An (Le (N 0) (v 24)) (Lt (v 24) e22))), ([], Ss 25 (Ix (v 15) (E2 (B.plus) e109 (v 24))))]) (Pi [([], Ss 26 (E3 (Tr.ite) (v 23) (Xt) (Ee (Ce 1 (v 25)) e144)))])) (Pi [([], Sm 25 [v 26])]))) (Pi [])))) (Pi [([], Sm 23 [v 25, Ad (v 24) (N 1)])])))))) (Ps (Pi [([(E1 (U.not) (v 23), true)], Sc 2 [v 0, v 16, v 17, N 3] 24 3), ([], Ss 27 (E3 (Tr.ite) e212 (v 24) (v 16))), ([], Ss 28 (E3 (Tr.ite) e212 (v 25) (v 17))), ([], Ss 29 (E3 (Tr.ite) e212 (E1 (U.not) (v 26)) (Xf)))]) (Pc (v 29) (Ps (Pi [([], Ss 30 (E2 (B.cons) (E2 (B.cons) (N 3) (E2 (B.cons) e144 e228)) Xn)), ([], Ss 31 (E2 (B.cat) (v 22) (v 30))), ([], Sk e123)]) e260) (Ps Pk (Pi [([], Sm 30 [v 22])])))))))) (Pi [([], Sm 20 [v 27, v 28, v 30])]))) (Pi [])))) (Pi [([], Sm 16 [v 20, v 21, v 22, Ad (v 19) (N 1)])])))))) (Ps (Pz (Pb 6 (Ps (Pi [([], Sm 19 [v 16, v 17, v 18, N 1])]) (Pl (Ps (Ps (Pz (Pc (Le (v 22) (Ad (N 1) (v 5))) Pk (Ps (Pi [([], Sm 19 [v 19, v 20, v 21])]) (Px 6)))) (Ps (Pb 7 (Ps (Ps (Pi [([], Sc 5 [v 21, v 22] 23 1), ([(Lt (v 23) (N 0), true)], Sc 2 [v 0, v 19, v 20, N 40] 24 3), ([], Ss 27 (E3 (Tr.ite) e223 (v 24) (v 19))), ([], Ss 28 (E3 (Tr.ite) e223 (v 25) (v 20))), ([], Ss 29 (E3 (Tr.ite) e223 (E1 (U.not) (v 26)) (Xf)))]) (Pc (v 29) (Ps (Pi [([], Ss 30 (E2 (B.cons) (E2 (B.cons) (N 3) (E2 (B.cons) (v 22) e228)) Xn)), ([], Ss 31 (E2 (B.cat) (v 21) (v 30))), ([], Sk e123)]) e260) (Ps Pk (Pi [([], Sm 30 [v 21])])))) (Pi [([], Sm 23 [v 27, v 28, v 30])]))) (Pi []))) (Pi [([], Sm 19 [v 23, v 24, v 25, Ad (v 22) (N 1)])])))))) (Pz (Pr [v 19, v 20, v 21]))))))))))
theorem i6 : Qi 6 p6 := zab (S := s6) (no0 := 2) (h := h6) tabOk (by kernel_rfl) Go.Proofs.Tryd.func8 rfl (by kernel_rfl) (by kernel_rfl)
def h7 : Hint := Hz (Hz (Hz (Hz (Hz (Hs (Hz (Hb (Jn [(4, [], Jp 1 0), (5, [], Js 2 39), (6, [], Js 3 3)] [(0, [], Or false 5 (v 0)), (1, [], Ob true [Ow 0 5, Li 8, Lu 9]), (2, [], Or true 39 (v 3)), (3, [], Or true 3 (v 10))] 8 3 5) (Hl (Jn [(4, [], Jp 1 0), (5, [], Js 2 39), (6, [], Js 3 3), (7, [], J 7), (22, [], Js 2 39), (23, [], SV.s e21), (24, [], J 11)] [(0, [], Or false 5 (v 0)), (1, [], Ob true [Ow 0 5, Li 8, Lu 9]), (2, [], Or true 39 (v 3)), (3, [], Or true 3 (v 10))] 8 4 5) (Hz (Hs e8 (Hs (Hb (Jn [(4, [], Jp 1 0), (5, [], Js 2 39), (6, [], Js 3 3), (7, [], J 7), (22, [], Js 2 39), (23, [], SV.s e21), (24, [], J 11)] [(0, [], Or false 5 (v 0)), (1, [], Ob true [Ow 0 5, Li 12, Lu 13]), (2, [], Or true 39 (v 3)), (3, [], Or true 3 (v 14))] 12 3 6) (Hz (Hs (Hz e8) (Hz (Hz (Hb e10 (Hz (Hc (some e10) (Hz (Hz (Hc (some (Jn [(4, [], Jp 1 0), (5, [], Js 2 39), (6, [], Js 3 3), (7, [], J 7), (22, [], Js 2 39), (23, [], SV.s e21), (24, [], J 11)] [(0, [], Or false 5 (v 0)), (1, [], Ob true [Ow 0 5, Li 8, Lu 9]), (2, [], Or true 39 (v 3)), (3, [], Or true 3 (v 15))] 15 1 6)) Hn Hn))) (Hz (Hc (some e10) (Hz (Hb (Jn [(4, [], Jp 1 0), (5, [], Js 2 39), (6, [], Js 3 3), (7, [], J 7), (22, [], Js 2 39), (23, [], SV.s e21), (24, [], J 11)] [(0, [], Or false 5 (v 0)), (1, [], Ob true [Ow 0 5, Li 8, Lu 9]), (2, [], Or true 39 (v 3)), (3, [], Or true 3 (v 14))] 14 1 6) (Hl (Jn [(4, [], Jp 1 0), (5, [], Js 2 39), (6, [], Js 3 3), (7, [], J 7), (8, [], J 11), (9, [], Jp 5 0), (11, [], J 15), (22, [], Js 2 39), (23, [], SV.s e21), (24, [], J 11)] [(0, [], Or false 5 (v 0)), (1, [], Ob true [Ow 0 5, Li 8, Lu 9]), (2, [], Or true 39 (v 3)), (3, [], Or true 3 (v 14)), (5, [], Ob true [Leaf.int (.i64) e188, Leaf.int (.i64) e158, Lz e288])] 14 2 6) (Hs (Hz e8) (Hs (Hb (Jn [(4, [], Jp 1 0), (5, [], Js 2 39), (6, [], Js 3 3), (7, [], J 7), (8, [], J 11), (9, [], Jp 5 0), (11, [], J 15), (22, [], Js 2 39), (23, [], SV.s e21), (24, [], J 11)] [(0, [], Or false 5 (v 0)), (1, [], Ob true [Ow 0 5, Li 8, Lu 9]), (2, [], Or true 39 (v 3)), (3, [], Or true 3 (v 16)), (5, [], Ob true [Leaf.int (.i64) e188, Leaf.int (.i64) e158, Lz e288])] 16 1 6) (Hs (Hr (mt mo (mt mo (mt mo (mt (mf e7 mo) (mt e7 (mt mo (mt mo (mt mo (mt mo (mt mo e214))))))))))) (Hc (some (Jn [(4, [], Jp 1 0), (5, [], Js 2 39), (6, [], Js 3 3), (7, [], J 7), (8, [], J 11), (9, [], Jp 5 0), (11, [], J 15), (22, [], Js 2 39), (23, [], SV.s e21), (24, [], J 11)] [(0, [], Or false 5 (v 0)), (1, [], Ob true [Ow 0 5, Li 8, Lu 9]), (2, [], Or true 39 (v 3)), (3, [], Or true 3 (v 17)), (5, [], Ob true [Leaf.int (.i64) e188, Leaf.int (.i64) e158, Lz e288])] 17 1 6)) Hn Hn))) Hn))))) Hn)))))))))) Hn)))))) (Hs (Hz (Hc (some (Jn [(5, [], Js 2 39), (6, [], Js 3 3)] [(0, [], Or false 5 (v 0)), (2, [], Or true 39 (v 3)), (3, [], Or true 3 (v 15))] 15 1 5)) Hn Hn)) (Hz Hn)))))))
def p7 : PI := Pz (Pz (Ps (Pi [([], Sc 6 [v 0, N 0, N 0] 1 3)]) (Ps (Pi [([], Sk (An (Le (N 0) e49) (Le e49 e217))), ([], Ss 4 (E2 (B.rep) e49 (N 0)))]) (Ps (Pi [([], Sc 1 [v 0, v 1, v 2, N 3] 5 3)]) (Ps (Pz (Pb 0 (Ps (Pi [([], Sm 8 [v 5, v 6, v 4, N 0])]) (Pl (Ps (Pz (Ps (Pc (Lt (v 11) e49) Pk (Ps (Pi [([], Sm 8 [v 8, v 9, v 10])]) (Px 0))) (Ps (Pb 1 (Ps (Ps (Pi [([], Sk (An e82 (Lt (v 11) e49))), ([], Ss 12 (Ix (v 3) (v 11)))]) (Ps (Pz (Pc (Ee e188 (N 3)) (Ps (Pi [([], Sm 12 [v 8, v 9, v 10])]) (Px 1)) Pk)) (Ps (Pi [([], Sk (An e82 (Lt (v 11) e263))), ([], Ss 13 (E3 (Tr.setI) (v 10) (v 11) (v 11)))]) (Pz (Pb 2 (Ps (Pz (Pc (Ee (v 7) (N 0)) (Ps (Ps (Pi [([], Sc 5 [v 3, Ce 1 (v 12)] 14 1)]) (Pz (Pc (E2 (B.cmp (BinOp.gtr)) (v 14) (v 11)) (Ps (Pi [([], Sk e220), ([], Ss 15 (E3 (Tr.setI) (v 13) (v 11) (v 14)))]) (Pi [([], Sm 15 [v 15])])) (Ps Pk (Pi [([], Sm 15 [v 13])]))))) (Pi [([], Sm 14 [v 8, v 9, v 15])])) (Ps (Pz (Pc (Ee (v 7) (N 1)) (Ps (Pz (Pb 3 (Ps (Pi [([], Sm 14 [v 13, v 11])]) (Pl (Ps (Ps (Pz (Pc e251 Pk (Ps (Pi [([], Sm 14 [v 14])]) (Px 3)))) (Ps (Pb 4 (Ps (Ps (Pi [([], Sk (An e175 e251)), ([(Ee (Ce 1 e224) e158, true)], Sk (An e175 e251)), ([], Ss 16 (E3 (Tr.ite) (Ee (Ce 1 e224) e158) (E2 (B.cmp (BinOp.neq)) (Ce 0 e224) (N 3)) (Xf)))]) (Pc (v 16) (Ps (Pi [([], Sk (An e82 (Lt (v 11) e132))), ([], Ss 17 (E3 (Tr.setI) (v 14) (v 11) (v 15)))]) e261) (Ps Pk (Pi [([], Sm 17 [v 14])])))) (Pi [([], Sm 16 [v 17])]))) (Pi []))) (Pi [([], Sm 14 [v 16, Ad (v 15) (N 1)])])))))) (Pi [([], Sm 14 [v 8, v 9, v 14])])) (Ps (Pi [([], Sc 1 [v 0, v 8, v 9, Sb e49 (v 11)] 14 3), ([], Sk e220), ([], Ss 17 (E3 (Tr.setI) (v 13) (v 11) (Ad (v 11) (v 16))))]) (Pi [([], Sm 14 [v 14, v 15, v 17])])))) e201))) e201)))))) (Pi [([], Sm 12 [v 14, v 15, v 16])]))) (Pi [])))) (Pi [([], Sm 8 [v 12, v 13, v 14, Ad (v 11) (N 1)])])))))) (Ps (Ps (Pi [([], Sc 2 [v 0, v 8, v 9, N 20] 11 3), ([], Ss 14 (E3 (Tr.ite) (v 13) (E2 (B.cmp (BinOp.gtr)) e263 (N 0)) (Xf)))]) (Pc (v 14) (Ps (Pi [([], Sc 1 [v 0, v 11, v 12, Ln (v 10)] 15 3), ([], Sc 1 [v 0, v 15, v 16, N 70] 18 3), ([], Sk (An (Le (N 0) (v 17)) (Lt (v 17) e263))), ([], Ss 21 (E3 (Tr.setI) (v 10) (v 17) (Sb (v 20) (N 2))))]) (Pi [([], Sm 15 [v 21])])) (Ps Pk (Pi [([], Sm 15 [v 10])])))) (Pz (Pr [v 3, v 15]))))))))
theorem i7 : Qi 7 p7 := zab (S := s7) (no0 := 1) (h := h7) tabOk (by kernel_rfl) Go.Proofs.Tryd.func4 rfl (by kernel_rfl) (by kernel_rfl)
def h8 : Hint := Hz (Hz Hn)
def p8 : PI := Pz e77
theorem i8 : Qi 8 p8 := zab (S := s8) (no0 := 0) (h := h8) tabOk (by kernel_rfl) Go.Proofs.Tryd.func13 rfl (by kernel_rfl) (by kernel_rfl)
def p9 : PI := Ps (Pi [([], Sk (E1 (U.ascii) (v 1))), ([], Sk (Le e124 (N 1000)))]) (Pr [E2 (B.trim) (v 0) (v 1)])
theorem i9 : Qi 9 p9 := zhA Go.Proofs.Tryd.lays160 (by kernel_rfl) (by kernel_rfl) (by kernel_rfl) rfl
def h10 : Hint := Hz (Hz Hn)
def p10 : PI := Pz (Ps (Pi [([], Ss 1 (E3 (Tr.ite) (E2 (B.cmp (BinOp.geq)) e124 (N 1)) (Le e124 (N 8)) (Xf))), ([(v 1, true)], Sc 9 [v 0, Exp.str [97, 98, 99, 100, 101, 102, 103, 104, 105, 106, 107, 108, 109, 110, 111, 112, 113, 114, 115, 116, 117, 118, 119, 120, 121, 122, 48, 49, 50, 51, 52, 53, 54, 55, 56, 57]] 2 1), ([], Ss 3 (E3 (Tr.ite) (v 1) (E2 (B.scmp (BinOp.eql)) (v 2) (Exp.str [])) (Xf)))]) e139)
theorem i10 : Qi 10 p10 := zab (S := s10) (no0 := 0) (h := h10) tabOk (by kernel_rfl) Go.Proofs.Tryd.func29 rfl (by kernel_rfl) (by kernel_rfl)
def h11 : Hint := Hz (Hz (Hz (Hs (Hz (Hb (Jn [(0, [], Js 0 39), (3, [], SV.s e163), (4, [], SV.s e162)] [(0, [], Or false 39 (v 0)), (1, [], Or true 4 (v 5)), (2, [], Or true 4 (v 6))] 5 2 4) (Hl (Jn [(0, [], Js 0 39), (3, [], SV.s e163), (4, [], SV.s e162), (9, [], Js 0 39), (10, [], SV.s e2), (11, [], J 7)] [(0, [], Or false 39 (v 0)), (1, [], Or true 4 (v 5)), (2, [], Or true 4 (v 6))] 5 3 4) (Hz (Hs e8 (Hs (Hb (Jn [(0, [], Js 0 39), (3, [], SV.s e163), (4, [], SV.s e162), (9, [], Js 0 39), (10, [], SV.s e2), (11, [], J 7)] [(0, [], Or false 39 (v 0)), (1, [], Or true 4 (v 8)), (2, [], Or true 4 (v 9))] 8 2 5) (Hz e164)) Hn)))))) (Hz Hn))))
def p11 : PI := Pz (Ps (Pi [([], Ss 1 e280), ([], Sk (Ee e286 (N 9))), ([], Ss 2 e30)]) (Ps (Pi [([], Ss 3 e280), ([], Sk (Ee e49 (N 9))), ([], Ss 4 e30)]) (Ps (Pz (Pb 0 (Ps (Pi [([], Sm 5 [v 2, v 4, N 0])]) (Pl (Ps (Pz (Ps (Pc e267 Pk (Ps (Pi [([], Sm 5 [v 5, v 6])]) (Px 0))) (Ps (Pb 1 (Ps (Ps e94 (Ps (Ps (Pi [([], Sc 8 [Ce 0 (v 8), N 1, N 3] 9 1), ([(E1 (U.not) (v 9), false)], Sc 8 [Ce 1 (v 8), N 1, N 8] 10 1), ([], Ss 11 (E3 (Tr.ite) (E1 (U.not) (v 9)) (Xt) (E1 (U.not) (v 10)))), ([(v 11, false)], Sk e125), ([(v 11, false)], Sk e193), ([], Ss 12 (E3 (Tr.ite) (v 11) (Xt) (Ix (v 5) e29))), ([(v 12, false)], Ss 13 (E3 (Tr.ite) (Ee e115 (N 3)) (E2 (B.scmp (BinOp.neq)) e243 (Exp.str [])) (Xf))), ([], Ss 14 e218), ([(E2 (B.cmp (BinOp.neq)) e115 (N 3), true), (v 14, false)], Sc 10 [Ce 2 (v 8)] 15 1), ([(v 14, false)], Ss 16 (E3 (Tr.ite) (E2 (B.cmp (BinOp.neq)) e115 (N 3)) (E1 (U.not) (v 15)) (Xf))), ([], Ss 17 (E3 (Tr.ite) (v 14) (Xt) (v 16)))]) (Pc (v 17) e120 Pk)) (Ps (Pi [([], Sk e125), ([], Sk (An e270 (Lt e29 e183))), ([], Ss 18 (E3 (Tr.setI) (v 6) e29 (Xt)))]) (Pi [([], Sk e125), ([], Sk e193), ([], Ss 19 (E3 (Tr.setI) (v 5) e29 (Ee e115 (N 3))))])))) (Pi [([], Sm 8 [v 19, v 18])]))) (Pi [])))) (Pi [([], Sm 5 [v 8, v 9, Ad (v 7) (N 1)])])))))) (Ps (Pi [([(Le e14 (N 60), true)], Sk (Ee e183 (N 9))), ([(Le e14 (N 60), true)], Sk (Ee e285 (N 9))), ([], Ss 7 (E3 (Tr.ite) (Le e14 (N 60)) (An (E2 (B.bcmp (BinOp.eql)) (Ix (v 6) (N 0)) (Ix (v 5) (N 0))) (An (E2 (B.bcmp (BinOp.eql)) (Ix (v 6) (N 1)) (Ix (v 5) (N 1))) (An (E2 (B.bcmp (BinOp.eql)) (Ix (v 6) (N 2)) (Ix (v 5) (N 2))) (An (E2 (B.bcmp (BinOp.eql)) (Ix (v 6) (N 3)) (Ix (v 5) (N 3))) (An (E2 (B.bcmp (BinOp.eql)) (Ix (v 6) (N 4)) (Ix (v 5) (N 4))) (An (E2 (B.bcmp (BinOp.eql)) (Ix (v 6) (N 5)) (Ix (v 5) (N 5))) (An (E2 (B.bcmp (BinOp.eql)) (Ix (v 6) (N 6)) (Ix (v 5) (N 6))) (An (E2 (B.bcmp (BinOp.eql)) (Ix (v 6) (N 7)) (Ix (v 5) (N 7))) (E2 (B.bcmp (BinOp.eql)) (Ix (v 6) (N 8)) (Ix (v 5) (N 8))))))))))) (Xf)))]) e283))))
theorem i11 : Qi 11 p11 := zab (S := s11) (no0 := 1) (h := h11) tabOk (by kernel_rfl) Go.Proofs.Tryd.func12 rfl (by kernel_rfl) (by kernel_rfl)
def h12 : Hint := Hz (Hz Hn)
def p12 : PI := Pz (Ps (Pi [([], Ss 8 (E3 (Tr.ite) (Ee (v 0) (v 6)) (E2 (B.scmp (BinOp.eql)) (v 1) (v 7)) (Xf)))]) (Pr [v 8]))
theorem i12 : Qi 12 p12 := zab (S := s12) (no0 := 1) (h := h12) tabOk (by kernel_rfl) Go.Proofs.Tryd.func31 rfl (by kernel_rfl) (by kernel_rfl)
def h13 : Hint := Hz (Hs (Hz (Hb (Jn [] [(0, [], Or false 64 (v 0)), (1, [], Ob false [Li 1, Li 2, Lz (v 3)])] 4 0 2) (Hl (Jn [(0, [], Js 0 64), (1, [], SV.s e291), (7, [], SV.s e2), (8, [], J 4)] [(0, [], Or false 64 (v 0)), (1, [], Ob false [Li 1, Li 2, Lz (v 3)])] 4 1 2) (Hz (Hs e8 (Hs (Hb (Jn [(0, [], Js 0 64), (1, [], SV.s e291), (7, [], SV.s e2), (8, [], J 4)] [(0, [], Or false 64 (v 0)), (1, [], Ob false [Li 1, Li 2, Lz (v 3)])] 5 0 2) (Hz e5)) Hn)))))) (Hz Hn))
def p13 : PI := Pz (Ps (Pz (Pb 0 (Ps e128 (Pl (Ps (Pz (Ps e106 (Ps (Pb 1 (Ps (Pz (Ps (Pi [([], Sk (An e154 e171)), ([], Ss 5 (Ix (v 0) (v 4))), ([], Sc 12 [Ce 0 (v 5), Ce 1 (v 5), Ce 2 (v 5), Ce 3 (v 5), Ce 4 (v 5), v 1, v 2, v 3] 6 1)]) (Pc (v 6) (Pz e233) Pk))) e111)) (Pi [])))) e85))))) e87)
theorem i13 : Qi 13 p13 := zab (S := s13) (no0 := 2) (h := h13) tabOk (by kernel_rfl) Go.Proofs.Tryd.func30 rfl (by kernel_rfl) (by kernel_rfl)
def h14 : Hint := Hz (Hz (Hs (Hz (Hb (Jn [(5, [], Js 8 64)] [(0, [], Or false 39 (v 0)), (1, [], Or false 3 (v 1)), (8, [], Or true 64 (v 3))] 3 1 9) (Hl (Jn [(1, [], Js 1 3), (5, [], Js 8 64), (10, [], Js 0 39), (11, [], SV.s e2), (12, [], J 4)] [(0, [], Or false 39 (v 0)), (1, [], Or false 3 (v 1)), (8, [], Or true 64 (v 3))] 3 2 9) (Hz (Hs e8 (Hs (Hb (Jn [(1, [], Js 1 3), (5, [], Js 13 64), (10, [], Js 0 39), (11, [], SV.s e2), (12, [], J 4)] [(0, [], Or false 39 (v 0)), (1, [], Or false 3 (v 1)), (13, [], Or true 64 (v 5))] 5 1 14) (Hz (Hs (Hz e8) (Hz (Hs (Hz (Hc (some (Jn [(1, [], Js 1 3), (5, [], Js 12 64), (6, [], J 4), (7, [], Jp 9 0), (8, [], J 8), (10, [], Js 0 39), (11, [], SV.s e2), (12, [], J 4)] [(0, [], Or false 39 (v 0)), (1, [], Or false 3 (v 1)), (12, [], Or true 64 (v 7)), (9, [], Ob true [Leaf.int (.i64) e47, Leaf.int (.i64) e155, Lz e173])] 7 2 13)) (Hz Hn) Hn)) (Hs (Hr (mt mo (mt mo (mt mo (mt mo (mt mo (mt e256 (mf (mf mo (mf mo e7)) e105)))))))) Hn)))))) Hn)))))) (Hz Hn)))
def p14 : PI := Pz (Ps (Pi [([], Ss 2 Xn)]) (Ps (Pz (Pb 0 (Ps (Pi [([], Sm 3 [v 2, N 0])]) (Pl (Ps (Pz (Ps (Pc e171 Pk e33) (Ps (Pb 1 (Ps (Ps e26 (Ps (Pz (Pc (Ee e47 (N 3)) (Ps (Pi [([], Sm 5 [v 3])]) (Px 1)) Pk)) (Ps (Pi [([], Sc 13 [v 3, Ce 0 (v 5), Ce 1 (v 5), Ce 2 (v 5)] 6 1)]) (Ps (Pz (Pc (Lt (v 6) (N 0)) (Ps (Pz (Pi [([], Ss 7 (E2 (B.cons) (E2 (B.cons) e155 (E2 (B.cons) e173 (E2 (B.cons) (v 4) (E2 (B.cons) (N 0) e292)))) Xn)), ([], Ss 8 (E2 (B.cat) (v 3) (v 7))), ([], Sk (Le e141 (N 2932031007402)))])) (Pi [([], Sm 7 [v 8, Ln (v 3)])])) (Ps Pk (Pi [([], Sm 7 [v 3, v 6])])))) (Ps (Pi [([], Sk e35), ([], Sk e36), ([], Sk e35), ([], Ss 9 (E3 (Tr.setI) (v 7) (v 8) (E2 (B.setC 3) e184 (E2 (B.max) (Ce 3 e184) (Ix (v 1) (v 4))))))]) (Pi [([], Sk e176), ([], Ss 10 (E3 (Tr.ite) (Ce 4 (Ix (v 9) (v 8))) (Xt) (Ee e47 (N 2)))), ([], Sk e176), ([], Ss 11 (E3 (Tr.setI) (v 9) (v 8) (E2 (B.setC 4) (Ix (v 9) (v 8)) (v 10))))])))))) (Pi [([], Sm 5 [v 11])]))) (Pi [])))) e104))))) (Pz e139)))
theorem i14 : Qi 14 p14 := zab (S := s14) (no0 := 2) (h := h14) tabOk (by kernel_rfl) Go.Proofs.Tryd.func15 rfl (by kernel_rfl) (by kernel_rfl)
def h15 : Hint := Hz (Hs (Hz (Hb (Jn [] [(0, [], Or false 64 (v 0))] 1 0 3) (Hl (Jn [(0, [], Js 0 64), (8, [], Js 0 64), (9, [], SV.s e2), (10, [], J 1)] [(0, [], Or false 64 (v 0))] 1 1 3) (Hz (Hs e8 (Hs (Hb (Jn [(0, [], Js 0 64), (8, [], Js 0 64), (9, [], SV.s e2), (10, [], J 1)] [(0, [], Or false 64 (v 0))] 2 0 5) (Hz (Hz (Hb (Jn [(0, [], Js 0 64), (8, [], Js 0 64), (9, [], SV.s e2), (10, [], J 1)] [(0, [], Or false 64 (v 0))] 3 0 5) (Hl (Jn [(0, [], Js 0 64), (3, [], J 1), (4, [], Jp 3 0), (8, [], Js 0 64), (9, [], SV.s e2), (10, [], J 1), (15, [], Js 0 64), (16, [], SV.s e2), (17, [], J 3)] [(0, [], Or false 64 (v 0)), (3, [], Ob true [Leaf.int (.i64) e89, Lz e114, Leaf.int (.i64) e92, Leaf.int (.i64) (Ce 3 (v 2)), Lb (Ce 4 (v 2))])] 3 1 5) (Hz (Hs e8 (Hs (Hb (Jn [(0, [], Js 0 64), (3, [], J 1), (4, [], Jp 3 0), (8, [], Js 0 64), (9, [], SV.s e2), (10, [], J 1), (15, [], Js 0 64), (16, [], SV.s e2), (17, [], J 3)] [(0, [], Or false 64 (v 0)), (3, [], Ob true [Leaf.int (.i64) e89, Lz e114, Leaf.int (.i64) e92, Leaf.int (.i64) (Ce 3 (v 2)), Lb (Ce 4 (v 2))])] 4 0 6) (Hz (Hs (Hz e8) (Hz e5)))) Hn)))))))) Hn)))))) (Hz Hn))
def p15 : PI := Pz (Ps (Pz (Pb 0 (Ps e130 (Pl (Ps (Pz (Ps e38 (Ps (Pb 1 (Ps (Ps e208 (Pz (Pb 2 (Ps e129 (Pl (Ps (Pz (Ps (Pc e172 Pk (Ps e112 (Px 2))) (Ps (Pb 3 (Ps (Ps e88 (Ps (Pz (Pc (Ee (v 1) (v 3)) (Ps e46 (Px 3)) Pk)) (Ps (Pi [([], Ss 5 (E3 (Tr.ite) (E2 (B.scmp (BinOp.eql)) e114 e133) (Le e92 (Ce 3 (v 4))) (Xf))), ([], Ss 6 (E3 (Tr.ite) (v 5) (Le e207 (Ce 3 (v 2))) (Xf))), ([(v 6, true)], Ss 7 (E3 (Tr.ite) (Ce 4 (v 2)) (Xt) (Ce 4 (v 4)))), ([], Ss 8 (E3 (Tr.ite) (v 6) (v 7) (Xf)))]) (Ps (Pi [([], Ss 9 (E3 (Tr.ite) (E2 (B.cmp (BinOp.neq)) e89 e134) (v 8) (Xf))), ([(v 9, false)], Ss 10 (E3 (Tr.ite) (Ee e89 e134) (E2 (B.cmp (BinOp.gtr)) e92 (Ce 3 (v 4))) (Xf))), ([], Ss 11 (E3 (Tr.ite) (v 9) (Xt) (v 10)))]) (Pc (v 11) e120 Pk))))) e46)) (Pi [])))) e121)))))) e78)) (Pi [])))) e56))))) e209)
theorem i15 : Qi 15 p15 := zab (S := s15) (no0 := 1) (h := h15) tabOk (by kernel_rfl) Go.Proofs.Tryd.func14 rfl (by kernel_rfl) (by kernel_rfl)
def h16 : Hint := Hz (Hs e5 (Hs (Hz (Hb e80 (Hl (Jn [(0, [], Js 0 39), (1, [], Js 1 3), (18, [], Js 0 39), (19, [], SV.s e2), (20, [], J 4)] [(0, [], Or false 39 (v 0)), (1, [], Or false 3 (v 1))] 4 1 3) (Hz (Hs e8 (Hs (Hb (Jn [(0, [], Js 0 39), (1, [], Js 1 3), (18, [], Js 0 39), (19, [], SV.s e2), (20, [], J 4)] [(0, [], Or false 39 (v 0)), (1, [], Or false 3 (v 1))] 5 0 4) (Hz e5)) Hn)))))) (Hz Hn)))
def p16 : PI := Pz (Ps (Ps (Pi [([], Sc 11 [v 0] 2 1), ([], Ss 3 e98)]) (Pc (v 3) e166 Pk)) (Ps (Pz (Pb 0 (Ps e128 (Pl (Ps (Pz (Ps e106 (Ps (Pb 1 (Ps (Ps e26 (Ps (Pi [([(Ee e47 (N 3), true)], Sk e36), ([], Ss 6 e96), ([(E2 (B.cmp (BinOp.neq)) e47 (N 3), true), (v 6, false)], Sk e36), ([(E2 (B.cmp (BinOp.neq)) e47 (N 3), true), (v 6, false)], Sc 8 [Ix (v 1) (v 4), v 4, Sb e14 (N 1)] 7 1), ([(v 6, false)], Ss 8 e108), ([], Ss 9 e145)]) (Pc (v 9) e166 Pk))) e111)) (Pi [])))) e85))))) (Ps (Pi [([], Sc 14 [v 0, v 1] 4 1), ([], Sc 15 [v 4] 5 1)]) (Pr [v 5, Xt]))))
theorem i16 : Qi 16 p16 := zab (S := s16) (no0 := 2) (h := h16) tabOk (by kernel_rfl) Go.Proofs.Tryd.func5 rfl (by kernel_rfl) (by kernel_rfl)
def h17 : Hint := Hz (Hz Hn)
def p17 : PI := Pz e77
theorem i17 : Qi 17 p17 := zab (S := s17) (no0 := 0) (h := h17) tabOk (by kernel_rfl) Go.Proofs.Tryd.func17 rfl (by kernel_rfl) (by kernel_rfl)
def h18 : Hint := Hz (Hs (Hz (Hb (Jn [(0, [], SV.s (Sq e182))] [] 1 0 0) (Hl (Jn [(0, [], SV.s (Sq e182)), (3, [], J 1)] [] 1 1 0) (Hs (Hz e8) (Hs (Hb (Jn [(0, [], SV.s (Sq e182)), (3, [], J 1)] [] 2 0 0) (Hz e5)) Hn))))) (Hz Hn))
def p18 : PI := Pz (Ps (Pz (Pb 0 (Ps e130 (Pl (Ps (Ps (Pz (Pc (Lt (v 1) e124) Pk e216)) (Ps (Pb 1 (Ps (Ps (Pi [([], Sk (An e18 (Lt (v 1) e124)))]) (Ps (Pi [([], Ss 2 (E3 (Tr.ite) (E2 (B.cmp (BinOp.geq)) e119 (N 97)) (Le e119 (N 122)) (Xf))), ([(v 2, false)], Ss 3 (E3 (Tr.ite) (E2 (B.cmp (BinOp.geq)) e119 (N 48)) (Le e119 (N 57)) (Xf))), ([], Ss 4 (E3 (Tr.ite) (v 2) (Xt) (v 3)))]) (Pc (E1 (U.not) (v 4)) e120 Pk))) e78)) (Pi []))) e56))))) (Ps (Pi [([], Sc 17 [E1 (U.slen) (v 0), N 1, N 8] 1 1)]) (Pr [v 1])))
theorem i18 : Qi 18 p18 := zab (S := s18) (no0 := 0) (h := h18) tabOk (by kernel_rfl) Go.Proofs.Tryd.func32 rfl (by kernel_rfl) (by kernel_rfl)
def h19 : Hint := Hz (Hs e5 (Hs (Hz (Hb (Jn [] [(0, [], Or false 39 (v 0))] 1 0 3) (Hl (Jn [(0, [], Js 0 39), (12, [], Js 0 39), (13, [], SV.s e2), (14, [], J 1)] [(0, [], Or false 39 (v 0))] 1 1 3) (Hz (Hs e8 (Hs (Hb (Jn [(0, [], Js 0 39), (12, [], Js 0 39), (13, [], SV.s e2), (14, [], J 1)] [(0, [], Or false 39 (v 0))] 2 0 5) (Hz (Hs e5 (Hz (Hz (Hs (Hz (Hb (Jn [(0, [], Js 0 39), (4, [], Jp 3 0), (5, [], SV.s e231), (6, [], SV.s (Sq (Lb (v 11)))), (12, [], Js 0 39), (13, [], SV.s e2), (14, [], J 1)] [(0, [], Or false 39 (v 0)), (3, [], Ob true [Leaf.int (.i64) e89, Leaf.int (.i64) e114, Lz e92])] 10 2 5) (Hl (Jn [(0, [], Js 0 39), (4, [], Jp 3 0), (5, [], SV.s e231), (6, [], SV.s (Sq (Lb (v 11)))), (12, [], Js 0 39), (13, [], SV.s e2), (14, [], J 1), (52, [], SV.s e245), (53, [], SV.s e247), (54, [], J 12)] [(0, [], Or false 39 (v 0)), (3, [], Ob true [Leaf.int (.i64) e89, Leaf.int (.i64) e114, Lz e92])] 10 3 5) (Hz (Hs e8 (Hs (Hb (Jn [(0, [], Js 0 39), (4, [], Jp 3 0), (5, [], SV.s (Sq (Lb (v 13)))), (6, [], SV.s (Sq (Lb (v 14)))), (12, [], Js 0 39), (13, [], SV.s e2), (14, [], J 1), (52, [], SV.s e245), (53, [], SV.s e247), (54, [], J 12)] [(0, [], Or false 39 (v 0)), (3, [], Ob true [Leaf.int (.i64) e89, Leaf.int (.i64) e114, Lz e92])] 13 2 6) e64) Hn)))))) e5)))))) Hn)))))) (Hz Hn)))
def p19 : PI := Pz (Ps (Pz (Pc (E2 (B.cmp (BinOp.gtr)) e14 (N 60)) e120 Pk)) (Ps (Pz (Pb 0 (Ps e130 (Pl (Ps (Pz (Ps e38 (Ps (Pb 1 (Ps (Ps e208 (Ps (Ps (Pi [([], Sc 17 [Ce 0 (v 2), N 1, N 3] 3 1), ([(E1 (U.not) (v 3), false)], Sc 17 [Ce 1 (v 2), N 1, N 8] 4 1), ([], Ss 5 (E3 (Tr.ite) e219 (Xt) (E1 (U.not) (v 4)))), ([], Ss 6 (E3 (Tr.ite) (v 5) (Xt) (E2 (B.bcmp (BinOp.neq)) (Ee e89 (N 3)) (E2 (B.scmp (BinOp.eql)) e92 (Exp.str []))))), ([(E2 (B.scmp (BinOp.neq)) e92 (Exp.str []), true), (v 6, false)], Sc 18 [Ce 2 (v 2)] 7 1), ([(v 6, false)], Ss 8 (E3 (Tr.ite) (E2 (B.scmp (BinOp.neq)) e92 (Exp.str [])) (E1 (U.not) (v 7)) (Xf))), ([], Ss 9 e145)]) (Pc (v 9) e120 Pk)) (Pz (Pz (Ps (Ps (Pi [([], Sk (An (Le (N 0) e99) (An (Le e99 e14) (Le e14 e14))))]) (Pb 2 (Ps (Pi [([], Sm 10 [Xf, Xf, N 0])]) (Pl (Ps (Pz (Ps (Pc (Lt (v 12) e34) Pk (Ps (Pi [([], Sm 10 [v 10, v 11])]) (Px 2))) (Ps (Pb 3 (Ps (Ps (Pi [([], Sk (An e81 (Lt (v 12) e34))), ([], Ss 13 (Ix (v 0) (E2 (B.plus) e99 (v 12))))]) (Ps (Pi [([], Ss 14 (E3 (Tr.ite) (v 10) (Xt) e279))]) (Pi [([(v 11, false)], Ss 15 (E3 (Tr.ite) e279 (Ee (Ce 0 (v 13)) (N 3)) (Xf))), ([], Ss 16 (E3 (Tr.ite) (v 11) (Xt) (v 15)))]))) (Pi [([], Sm 13 [v 14, v 16])]))) (Pi [])))) (Pi [([], Sm 10 [v 13, v 14, Ad (v 12) (N 1)])])))))) (Ps (Pi [([], Ss 12 (E3 (Tr.ite) (Ee e89 (N 3)) (v 10) (Xf))), ([(v 12, false)], Ss 13 (E3 (Tr.ite) (E2 (B.cmp (BinOp.neq)) e89 (N 3)) (E1 (U.not) (v 11)) (Xf))), ([], Ss 14 e218)]) (Pc (v 14) e120 Pk))))))) e78)) (Pi [])))) e56))))) e209))
theorem i19 : Qi 19 p19 := zab (S := s19) (no0 := 1) (h := h19) tabOk (by kernel_rfl) Go.Proofs.Tryd.func16 rfl (by kernel_rfl) (by kernel_rfl)
def h20 : Hint := Hz (Hz (Hz (Hz (Hs (Hz (Hb (Jn [(12, [], J 4), (13, [], J 5), (14, [], SV.s e200)] [(0, [], Or false 39 (v 0)), (1, [], Or false 3 (v 1))] 4 3 3) (Hl (Jn [(1, [], Js 1 3), (2, [], J 2), (3, [], SV.s e198), (12, [], J 4), (13, [], J 5), (14, [], SV.s e200), (17, [], Js 0 39), (18, [], SV.s e2), (19, [], J 7)] [(0, [], Or false 39 (v 0)), (1, [], Or false 3 (v 1))] 4 4 3) (Hz (Hs e8 (Hs (Hb (Jn [(1, [], Js 1 3), (2, [], J 2), (3, [], SV.s e198), (12, [], J 8), (13, [], J 9), (14, [], SV.s e231), (17, [], Js 0 39), (18, [], SV.s e2), (19, [], J 7)] [(0, [], Or false 39 (v 0)), (1, [], Or false 3 (v 1))] 8 3 4) (Hz (Hs (Hz e8) (Hs (Hz (Hc (some (Jn [(1, [], Js 1 3), (2, [], J 2), (3, [], SV.s e198), (12, [], J 10), (13, [], J 5), (14, [], SV.s e200), (15, [], J 7), (16, [], Jp 3 0), (17, [], Js 0 39), (18, [], SV.s e2), (19, [], J 7)] [(0, [], Or false 39 (v 0)), (1, [], Or false 3 (v 1)), (3, [], Ob true [Leaf.int (.i64) e115, Leaf.int (.i64) e29, Lz e243])] 10 1 4)) Hn Hn)) (Hs (Hz (Hc (some (Jn [(1, [], Js 1 3), (2, [], J 2), (3, [], SV.s e198), (12, [], J 10), (13, [], J 11), (14, [], SV.s e200), (16, [], Jp 3 0), (17, [], Js 0 39), (18, [], SV.s e2), (19, [], J 7)] [(0, [], Or false 39 (v 0)), (1, [], Or false 3 (v 1)), (3, [], Ob true [Leaf.int (.i64) e115, Leaf.int (.i64) e29, Lz e243])] 11 1 4)) Hn Hn)) Hn))))) Hn)))))) (Hz Hn)))))
def p20 : PI := Pz (Pz (Pz (Pz (Ps (Pz (Pb 0 (Ps (Pi [([], Sm 4 [N (-1), N (-1), Xf, N 0])]) (Pl (Ps (Pz (Ps (Pc e267 Pk (Ps (Pi [([], Sm 4 [v 4, v 5, v 6])]) (Px 0))) (Ps (Pb 1 (Ps (Ps e94 (Ps (Ps (Pi [([], Ss 9 (E3 (Tr.ite) (E2 (B.cmp (BinOp.neq)) e29 (v 2)) (Xt) (E2 (B.scmp (BinOp.neq)) e243 (v 3))))]) (Pc (v 9) (Ps (Pi [([], Sm 8 [v 4, v 5, v 6])]) (Px 1)) Pk)) (Ps (Pz (Pc (Lt (v 4) (N 0)) (Pz (Pi [([], Sm 10 [v 7])])) (Ps Pk (Pi [([], Sm 10 [v 4])])))) (Ps (Ps e137 (Pc (E2 (B.cmp (BinOp.gtr)) (Ix (v 1) (v 7)) (v 5)) (Ps e137 (Pi [([], Sm 11 [Ix (v 1) (v 7)])])) (Ps Pk (Pi [([], Sm 11 [v 5])])))) (Pi [([], Ss 12 (E3 (Tr.ite) (v 6) (Xt) (Ee e115 (N 2))))]))))) (Pi [([], Sm 8 [v 10, v 11, v 12])]))) (Pi [])))) (Pi [([], Sm 4 [v 8, v 9, v 10, Ad (v 7) (N 1)])])))))) (Pz (Pr [v 4, v 5, v 6, E2 (B.cmp (BinOp.geq)) (v 4) (N 0)]))))))
theorem i20 : Qi 20 p20 := zab (S := s20) (no0 := 2) (h := h20) tabOk (by kernel_rfl) Go.Proofs.Tryd.func18 rfl (by kernel_rfl) (by kernel_rfl)
def h21 : Hint := Hz (Hs e5 (Hs (Hz (Hb e80 (Hl (Jn [(0, [], Js 0 39), (1, [], Js 1 3), (30, [], Js 0 39), (31, [], SV.s e2), (32, [], J 4)] [(0, [], Or false 39 (v 0)), (1, [], Or false 3 (v 1))] 4 1 3) (Hz (Hs e8 (Hs (Hb (Jn [(0, [], Js 0 39), (1, [], Js 1 3), (30, [], Js 0 39), (31, [], SV.s e2), (32, [], J 4)] [(0, [], Or false 39 (v 0)), (1, [], Or false 3 (v 1))] 5 0 4) (Hz e5)) Hn)))))) (Hs (Hz (Hb (Jn [] [(0, [], Or false 39 (v 0)), (1, [], Or false 3 (v 1))] 4 0 5) (Hl (Jn [(0, [], Js 0 39), (1, [], Js 1 3), (65, [], Js 0 39), (66, [], SV.s e2), (67, [], J 4)] [(0, [], Or false 39 (v 0)), (1, [], Or false 3 (v 1))] 4 1 5) (Hz (Hs e8 (Hs (Hb (Jn [(0, [], Js 0 39), (1, [], Js 1 3), (65, [], Js 0 39), (66, [], SV.s e2), (67, [], J 4)] [(0, [], Or false 39 (v 0)), (1, [], Or false 3 (v 1))] 5 0 7) (Hz (Hs (Hz e8) (Hz (Hz (Hb (Jn [(0, [], Js 0 39), (1, [], Js 1 3), (65, [], Js 0 39), (66, [], SV.s e2), (67, [], J 4)] [(0, [], Or false 39 (v 0)), (1, [], Or false 3 (v 1))] 10 0 7) (Hl (Jn [(0, [], Js 0 39), (1, [], Js 1 3), (8, [], J 4), (9, [], Jp 5 0), (10, [], J 6), (11, [], J 7), (12, [], SV.s e136), (65, [], Js 0 39), (66, [], SV.s e2), (67, [], J 4), (87, [], Js 0 39), (88, [], SV.s e2), (89, [], J 10)] [(0, [], Or false 39 (v 0)), (1, [], Or false 3 (v 1)), (5, [], Ob true [Leaf.int (.i64) e47, Leaf.int (.i64) e155, Lz e173])] 10 1 7) (Hz (Hs e8 (Hs (Hb (Jn [(0, [], Js 0 39), (1, [], Js 1 3), (8, [], J 4), (9, [], Jp 5 0), (10, [], J 6), (11, [], J 7), (12, [], SV.s e136), (65, [], Js 0 39), (66, [], SV.s e2), (67, [], J 4), (87, [], Js 0 39), (88, [], SV.s e2), (89, [], J 10)] [(0, [], Or false 39 (v 0)), (1, [], Or false 3 (v 1)), (5, [], Ob true [Leaf.int (.i64) e47, Leaf.int (.i64) e155, Lz e173])] 11 0 8) (Hz (Hs (Hz e8) (Hz (Hs e5 e5))))) Hn)))))))))) Hn)))))) (Hz Hn))))
def p21 : PI := Pz (Ps (Ps (Pi [([], Sc 19 [v 0] 2 1), ([], Ss 3 e98)]) (Pc (v 3) e166 Pk)) (Ps (Pz (Pb 0 (Ps e128 (Pl (Ps (Pz (Ps e106 (Ps (Pb 1 (Ps (Ps e26 (Ps (Pi [([(Ee e47 (N 3), true)], Sk e36), ([], Ss 6 e96), ([(E2 (B.cmp (BinOp.neq)) e47 (N 3), true), (v 6, false)], Sk e36), ([(E2 (B.cmp (BinOp.neq)) e47 (N 3), true), (v 6, false)], Sc 17 [Ix (v 1) (v 4), v 4, Sb e14 (N 1)] 7 1), ([(v 6, false)], Ss 8 e108), ([], Ss 9 e145)]) (Pc (v 9) e166 Pk))) e111)) (Pi [])))) e85))))) (Ps (Pz (Pb 2 (Ps e128 (Pl (Ps (Pz (Ps (Pc e171 Pk (Ps e46 (Px 2))) (Ps (Pb 3 (Ps (Ps e26 (Ps (Pz (Pc (E2 (B.scmp (BinOp.eql)) e173 (Exp.str [])) (Ps e111 (Px 3)) Pk)) (Ps (Pi [([], Sc 20 [v 0, v 1, Ce 1 (v 5), Ce 2 (v 5)] 6 4)]) (Pz (Pb 4 (Ps (Pi [([], Sm 10 [N 0])]) (Pl (Ps (Pz (Ps (Pc (Lt (v 10) e14) Pk (Ps (Pi [([], Sm 10 [])]) (Px 4))) (Ps (Pb 5 (Ps (Ps (Pi [([], Sk (An (Le (N 0) (v 10)) (Lt (v 10) e14))), ([], Ss 11 (Ix (v 0) (v 10)))]) (Ps (Pz (Pc (E2 (B.scmp (BinOp.eql)) (Ce 2 (v 11)) (Exp.str [])) (Ps e195 (Px 5)) Pk)) (Ps (Pi [([], Sc 20 [v 0, v 1, Ce 1 (v 11), Ce 2 (v 11)] 12 4)]) (Ps (Ps (Pi [([], Ss 16 (E3 (Tr.ite) (E2 (B.cmp (BinOp.neq)) e289 e155) (E2 (B.scmp (BinOp.eql)) (Ce 2 (v 11)) e173) (Xf))), ([(v 16, true)], Ss 17 (E3 (Tr.ite) (v 8) (Xt) (v 14))), ([], Ss 18 (E3 (Tr.ite) (v 16) (v 17) (Xf))), ([], Ss 19 (E3 (Tr.ite) (v 18) (Le (v 6) (v 13)) (Xf))), ([], Ss 20 (E3 (Tr.ite) (v 19) (Le (v 12) (v 7)) (Xf)))]) (Pc (v 20) (Pz (Pr [Xf, Xt])) Pk)) (Ps (Pi [([], Ss 21 (E3 (Tr.ite) (Ee e289 e155) (Ee (v 6) (v 4)) (Xf))), ([], Ss 22 (E3 (Tr.ite) (v 21) (E2 (B.cmp (BinOp.gtr)) (v 12) (v 7)) (Xf)))]) (Pc (v 22) (Pz (Pr [Xf, Xt])) Pk)))))) e195)) (Pi [])))) (Pi [([], Sm 10 [Ad (v 10) (N 1)])]))))))))) e111)) (Pi [])))) e85))))) (Pz (Pr [Xt, Xt])))))
theorem i21 : Qi 21 p21 := zab (S := s21) (no0 := 2) (h := h21) tabOk (by kernel_rfl) Go.Proofs.Tryd.func6 rfl (by kernel_rfl) (by kernel_rfl)
def h22 : Hint := Hz (Hs (Hz (Hc (some (Jn [(0, [], SV.s (Sq (Leaf.int (.u32) (v 1)))), (2, [], J 2)] [] 1 2 0)) (Hz Hn) Hn)) (Hs (Hz (Hc (some (Jn [(0, [], SV.s (Sq (Leaf.int (.u32) (v 3)))), (2, [], J 4)] [] 3 2 0)) (Hz Hn) Hn)) (Hz Hn)))
def p22 : PI := Pz (Ps (Pz (Pc (E2 (B.cmp (BinOp.geq)) (v 0) (N 65536)) (Ps e110 (Pi [([], Sm 1 [E2 (B.ar (BinOp.shr) (.u32)) (v 0) (N 16), N 16])])) e203)) (Ps (Pz (Pc (E2 (B.cmp (BinOp.geq)) (v 1) (N 256)) (Ps e110 (Pi [([], Sm 3 [E2 (B.ar (BinOp.shr) (.u32)) (v 1) (N 8), Ad (v 2) (N 8)])])) e202)) (Ps (Pi [([], Sk (An (Le (N 0) e168) (Lt e168 e6)))]) (Pr [Ad (v 4) (E1 (U.conv (.i64)) (E2 (B.sidx) (Exp.str [0, 1, 2, 2, 3, 3, 3, 3, 4, 4, 4, 4, 4, 4, 4, 4, 5, 5, 5, 5, 5, 5, 5, 5, 5, 5, 5, 5, 5, 5, 5, 5, 6, 6, 6, 6, 6, 6, 6, 6, 6, 6, 6, 6, 6, 6, 6, 6, 6, 6, 6, 6, 6, 6, 6, 6, 6, 6, 6, 6, 6, 6, 6, 6, 7, 7, 7, 7, 7, 7, 7, 7, 7, 7, 7, 7, 7, 7, 7, 7, 7, 7, 7, 7, 7, 7, 7, 7, 7, 7, 7, 7, 7, 7, 7, 7, 7, 7, 7, 7, 7, 7, 7, 7, 7, 7, 7, 7, 7, 7, 7, 7, 7, 7, 7, 7, 7, 7, 7, 7, 7, 7, 7, 7, 7, 7, 7, 7, 8, 8, 8, 8, 8, 8, 8, 8, 8, 8, 8, 8, 8, 8, 8, 8, 8, 8, 8, 8, 8, 8, 8, 8, 8, 8, 8, 8, 8, 8, 8, 8, 8, 8, 8, 8, 8, 8, 8, 8, 8, 8, 8, 8, 8, 8, 8, 8, 8, 8, 8, 8, 8, 8, 8, 8, 8, 8, 8, 8, 8, 8, 8, 8, 8, 8, 8, 8, 8, 8, 8, 8, 8, 8, 8, 8, 8, 8, 8, 8, 8, 8, 8, 8, 8, 8, 8, 8, 8, 8, 8, 8, 8, 8, 8, 8, 8, 8, 8, 8, 8, 8, 8, 8, 8, 8, 8, 8, 8, 8, 8, 8, 8, 8, 8, 8, 8, 8, 8, 8, 8, 8, 8, 8, 8, 8, 8, 8]) e168))]))))
theorem i22 : Qi 22 p22 := zab (S := s22) (no0 := 0) (h := h22) tabOk (by kernel_rfl) Go.Proofs.Tryd.func62 rfl (by kernel_rfl) (by kernel_rfl)
def h23 : Hint := Hz (Hs (Hz (Hc (some (Jn [(0, [], SV.s (Sq (Lu 1))), (2, [], J 2)] [] 1 2 0)) (Hz Hn) Hn)) (Hs (Hz (Hc (some (Jn [(0, [], SV.s e258), (2, [], J 4)] [] 3 2 0)) (Hz Hn) Hn)) (Hs (Hz (Hc (some (Jn [(0, [], SV.s (Sq (Lu 5))), (2, [], J 6)] [] 5 2 0)) (Hz Hn) Hn)) (Hz Hn))))
def p23 : PI := Pz (Ps (Pz (Pc (E2 (B.cmp (BinOp.geq)) (v 0) (N 4294967296)) (Ps e110 (Pi [([], Sm 1 [E2 (B.ar (BinOp.shr) (.u64)) (v 0) (N 32), N 32])])) e203)) (Ps (Pz (Pc (E2 (B.cmp (BinOp.geq)) (v 1) (N 65536)) (Ps e110 (Pi [([], Sm 3 [E2 (B.ar (BinOp.shr) (.u64)) (v 1) (N 16), Ad (v 2) (N 16)])])) e202)) (Ps (Pz (Pc (E2 (B.cmp (BinOp.geq)) (v 3) (N 256)) (Ps e110 (Pi [([], Sm 5 [E2 (B.ar (BinOp.shr) (.u64)) (v 3) (N 8), Ad (v 4) (N 8)])])) (Ps Pk e152))) (Ps (Pi [([], Sk (An (Le (N 0) e167) (Lt e167 e6)))]) (Pr [Ad (v 6) (E1 (U.conv (.i64)) (E2 (B.sidx) (Exp.str [0, 1, 2, 2, 3, 3, 3, 3, 4, 4, 4, 4, 4, 4, 4, 4, 5, 5, 5, 5, 5, 5, 5, 5, 5, 5, 5, 5, 5, 5, 5, 5, 6, 6, 6, 6, 6, 6, 6, 6, 6, 6, 6, 6, 6, 6, 6, 6, 6, 6, 6, 6, 6, 6, 6, 6, 6, 6, 6, 6, 6, 6, 6, 6, 7, 7, 7, 7, 7, 7, 7, 7, 7, 7, 7, 7, 7, 7, 7, 7, 7, 7, 7, 7, 7, 7, 7, 7, 7, 7, 7, 7, 7, 7, 7, 7, 7, 7, 7, 7, 7, 7, 7, 7, 7, 7, 7, 7, 7, 7, 7, 7, 7, 7, 7, 7, 7, 7, 7, 7, 7, 7, 7, 7, 7, 7, 7, 7, 8, 8, 8, 8, 8, 8, 8, 8, 8, 8, 8, 8, 8, 8, 8, 8, 8, 8, 8, 8, 8, 8, 8, 8, 8, 8, 8, 8, 8, 8, 8, 8, 8, 8, 8, 8, 8, 8, 8, 8, 8, 8, 8, 8, 8, 8, 8, 8, 8, 8, 8, 8, 8, 8, 8, 8, 8, 8, 8, 8, 8, 8, 8, 8, 8, 8, 8, 8, 8, 8, 8, 8, 8, 8, 8, 8, 8, 8, 8, 8, 8, 8, 8, 8, 8, 8, 8, 8, 8, 8, 8, 8, 8, 8, 8, 8, 8, 8, 8, 8, 8, 8, 8, 8, 8, 8, 8, 8, 8, 8, 8, 8, 8, 8, 8, 8, 8, 8, 8, 8, 8, 8, 8, 8, 8, 8, 8, 8]) e167))])))))
theorem i23 : Qi 23 p23 := zab (S := s23) (no0 := 0) (h := h23) tabOk (by kernel_rfl) Go.Proofs.Tryd.func63 rfl (by kernel_rfl) (by kernel_rfl)
def h24 : Hint := Hz (Hs e205 (Hz Hn))
def p24 : PI := Pz (Ps (Pc (Xf) (Ps (Pi [([], Sc 22 [E1 (U.conv (.u32)) (v 0)] 1 1)]) (Pr [v 1])) Pk) (Ps (Pi [([], Sc 23 [v 0] 1 1)]) (Pr [v 1])))
theorem i24 : Qi 24 p24 := zab (S := s24) (no0 := 0) (h := h24) tabOk (by kernel_rfl) Go.Proofs.Tryd.func40 rfl (by kernel_rfl) (by kernel_rfl)
def h25 : Hint := Hz (Hz Hn)
def p25 : PI := Pz (Pz (Pr [E2 (B.cmp (BinOp.neq)) (v 0) (v 0)]))
theorem i25 : Qi 25 p25 := zab (S := s25) (no0 := 0) (h := h25) tabOk (by kernel_rfl) Go.Proofs.Tryd.func65 rfl (by kernel_rfl) (by kernel_rfl)
def h26 : Hint := Hz (Hz Hn)
def p26 : PI := Pz (Ps (Pi [([], Sc 25 [v 0] 2 1), ([(v 2, true)], Sc 25 [v 1] 3 1), ([], Ss 4 (E3 (Tr.ite) (v 2) e219 (Xf))), ([], Ss 5 (E3 (Tr.ite) (v 4) (Xt) (Lt (v 0) (v 1))))]) (Pr [v 5]))
theorem i26 : Qi 26 p26 := zab (S := s26) (no0 := 0) (h := h26) tabOk (by kernel_rfl) Go.Proofs.Tryd.func59 rfl (by kernel_rfl) (by kernel_rfl)
def h27 : Hint := Hz (Hb (Jn [] [(0, [], Or true 3 (v 3))] 3 1 1) (Hl (Jn [(0, [], Js 0 3), (1, [], J 1), (2, [], J 2), (6, [], J 4)] [(0, [], Or true 3 (v 3))] 3 2 1) (Hs (Hz e8) (Hs (Hb e84 (Hz (Hb e84 (Hl (Jn [(0, [], Js 0 3), (1, [], J 1), (2, [], J 2), (6, [], J 4), (7, [], J 6)] [(0, [], Or true 3 (v 5))] 5 2 1) (Hs (Hs (Hr (mt mo (mt mo (mt mo (mt mo (mt mo (mt mo (mt mo (mt e4 (mf mo (mf mo (mf mo e93)))))))))))) e8) (Hs (Hb (Jn [(0, [], Js 0 3), (1, [], J 1), (2, [], J 2), (6, [], J 4), (7, [], J 6)] [(0, [], Or true 3 (v 9))] 9 1 1) (Hr e86)) Hn)))))) Hn))))
def p27 : PI := Ps (Pz (Pb 0 (Ps e191 (Pl (Ps (Ps e213 (Ps (Pb 1 (Ps (Pz (Pb 2 (Ps e152 (Pl (Ps (Ps (Ps (Pi [([(E2 (B.cmp (BinOp.gtr)) (v 6) (v 1), true)], Sk e23), ([(E2 (B.cmp (BinOp.gtr)) (v 6) (v 1), true)], Sk e74), ([(E2 (B.cmp (BinOp.gtr)) (v 6) (v 1), true)], Sc 26 [Ix (v 5) (v 6), Ix (v 5) e16] 7 1), ([], Ss 8 (E3 (Tr.ite) e206 (v 7) (Xf)))]) (Pc (v 8) Pk e250)) (Ps (Pb 3 (Ps (Pi [([], Sk e74), ([], Sk e23), ([], Sk e23), ([], Ss 9 (E3 (Tr.setI) (v 5) (v 6) e271)), ([], Sk e229), ([], Ss 10 (E3 (Tr.setI) (v 9) e16 e239))]) (Pi [([], Sm 9 [v 10])]))) (Pi []))) (Pi [([], Sm 5 [v 9, Sb (v 6) (N 1)])])))))) e79)) (Pi []))) e104))))) e139
theorem i27 : Qi 27 p27 := zab (S := s27) (no0 := 1) (h := h27) tabOk (by kernel_rfl) Go.Proofs.Tryd.func53 rfl (by kernel_rfl) (by kernel_rfl)
def h28 : Hint := Hz (Hz (Hk (Hl (Jn [(0, [], Js 0 3), (1, [], J 1), (2, [], J 2), (3, [], J 3), (8, [], SV.s e57), (9, [], SV.s e57)] [(0, [], Or true 3 (v 0))] 4 0 1) (Hk (Hz (Hs e5 (Hint.stuck)))))))
def p28 : PI := Pz (Pz (Pb 0 (Ps e46 (Pl (Pb 1 (Pz (Ps (Pz (Pc (Le e43 (N 12)) (Ps (Pi [([], Sc 27 [v 0, v 1, v 2] 4 1)]) e233) Pk)) e103)))))))
theorem i28 : Qi 28 p28 := zab (S := s28) (no0 := 1) (h := h28) tabOk (by kernel_rfl) Go.Proofs.Tryd.func39 rfl (by kernel_rfl) (by kernel_rfl)
def h29 : Hint := Hz Hn
def p29 : PI := Ps (Pz (Pi [([], Sc 24 [E1 (U.conv (.u64)) e14] 1 1), ([], Sc 28 [v 0, N 0, Ln (v 0), v 1] 2 1)])) e284
theorem i29 : Qi 29 p29 := zab (S := s29) (no0 := 1) (h := h29) tabOk (by kernel_rfl) Go.Proofs.Tryd.func33 rfl (by kernel_rfl) (by kernel_rfl)
def h30 : Hint := Hz (Hz (Hs (Hz (Hb (Jn [(3, [], Js 6 3)] [(0, [], Or false 39 (v 0)), (6, [], Or true 3 (v 2))] 2 1 7) (Hl (Jn [(3, [], Js 6 3), (7, [], Js 0 39), (8, [], SV.s e2), (9, [], J 3)] [(0, [], Or false 39 (v 0)), (6, [], Or true 3 (v 2))] 2 2 7) (Hz (Hs e8 (Hs (Hb (Jn [(3, [], Js 10 3), (7, [], Js 0 39), (8, [], SV.s e2), (9, [], J 3)] [(0, [], Or false 39 (v 0)), (10, [], Or true 3 (v 4))] 4 1 11) (Hz (Hz (Hc (some (Jn [(3, [], Js 10 3), (7, [], Js 0 39), (8, [], SV.s e2), (9, [], J 3)] [(0, [], Or false 39 (v 0)), (10, [], Or true 3 (v 5))] 5 1 11)) Hn Hn)))) Hn)))))) e64))
def p30 : PI := Pz (Ps (Pi [([], Ss 1 Xn)]) (Ps (Pz (Pb 0 (Ps e234 (Pl (Ps (Pz (Ps e140 (Ps (Pb 1 (Ps (Ps e88 (Pz (Pc (Ee e134 (N 3)) (Ps (Pi [([], Ss 5 e197), ([], Ss 6 (E2 (B.cat) (v 2) (v 5))), ([], Sk (Le e183 e217))]) (Pi [([], Sm 5 [v 6])])) (Ps Pk (Pi [([], Sm 5 [v 2])]))))) e277)) (Pi [])))) e192))))) (Ps (Pi [([], Sc 29 [v 2] 3 1)]) (Pz e139))))
theorem i30 : Qi 30 p30 := zab (S := s30) (no0 := 1) (h := h30) tabOk (by kernel_rfl) Go.Proofs.Tryd.func19 rfl (by kernel_rfl) (by kernel_rfl)
def h31 : Hint := Hz (Hz (Hz (Hs (Hz (Hc none e164 Hn)) (Hs e5 (Hs e5 e164)))))
def p31 : PI := Pz (Ps (Pi [([], Sc 25 [v 0] 2 1)]) (Ps (Pi [([], Sc 25 [v 1] 3 1)]) (Ps (Pz (Pc (v 2) (Ps (Pz (Pc (v 3) e249 Pk)) e87) Pk)) (Ps (Pz (Pc (v 3) (Pz (Pr [N 1])) Pk)) (Ps (Pz (Pc (Lt (v 0) (v 1)) e87 Pk)) (Ps (Pz (Pc (E2 (B.cmp (BinOp.gtr)) (v 0) (v 1)) (Pz (Pr [N 1])) Pk)) e249))))))
theorem i31 : Qi 31 p31 := zab (S := s31) (no0 := 0) (h := h31) tabOk (by kernel_rfl) Go.Proofs.Tryd.func44 rfl (by kernel_rfl) (by kernel_rfl)
def h32 : Hint := Hz (Hz (Hs (Hz (Hb (Jn [(3, [], SV.s e28)] [(0, [], Or false 3 (v 0))] 1 0 1) (Hl (Jn [(3, [], SV.s e28), (6, [], Js 0 3), (7, [], SV.s e2), (8, [], J 1)] [(0, [], Or false 3 (v 0))] 1 1 1) (Hz (Hs e8 (Hs (Hb (Jn [(3, [], SV.s e28), (6, [], Js 0 3), (7, [], SV.s e2), (8, [], J 1)] [(0, [], Or false 3 (v 0))] 2 0 1) (Hz e5)) Hn)))))) (Hz Hn)))
def p32 : PI := Pz (Pz (Ps (Pz (Pb 0 (Ps e130 (Pl (Ps (Pz (Ps e38 (Ps (Pb 1 (Ps (Ps (Pi [([], Sk e45)]) (Pz (Pc (E2 (B.cmp (BinOp.neq)) e95 (N 0)) (Pz (Pr [Ix (v 0) (v 1)])) Pk))) e78)) (Pi [])))) e56))))) e249))
theorem i32 : Qi 32 p32 := zab (S := s32) (no0 := 1) (h := h32) tabOk (by kernel_rfl) Go.Proofs.Tryd.func43 rfl (by kernel_rfl) (by kernel_rfl)
def h33 : Hint := Hz (Hs (Hr (mt (mf e150 mo) (mt e150 (mt (mf e257 mo) (mt e257 (mt e17 (mt (mf e7 mo) (mt e7 e214)))))))) Hn)
def p33 : PI := Pz (Ps (Pi [([], Sc 31 [v 0, v 2] 4 1), ([], Sc 31 [v 1, v 3] 5 1), ([], Ss 6 (E2 (B.cons) (v 4) (E2 (B.cons) (v 5) Xn))), ([], Sc 32 [v 6] 7 1)]) e283)
theorem i33 : Qi 33 p33 := zab (S := s33) (no0 := 0) (h := h33) tabOk (by kernel_rfl) Go.Proofs.Tryd.func42 rfl (by kernel_rfl) (by kernel_rfl)
def h34 : Hint := Hz (Hb e97 (Hl (Jn [(0, [], Js 0 55), (1, [], J 1), (2, [], J 2), (3, [], SV.s e3), (8, [], J 4)] [(0, [], Or true 55 (v 3))] 3 2 1) (Hs (Hz e8) (Hs (Hb e66 (Hz (Hb e66 (Hl (Jn [(0, [], Js 0 55), (1, [], J 1), (2, [], J 2), (3, [], SV.s e3), (8, [], J 4), (9, [], J 6)] [(0, [], Or true 55 (v 5))] 5 2 1) (Hs (Hs (Hr (mt mo (mt mo (mt mo (mt mo e53))))) e8) (Hs (Hb (Jn [(0, [], Js 0 55), (1, [], J 1), (2, [], J 2), (3, [], SV.s e3), (8, [], J 4), (9, [], J 6)] [(0, [], Or true 55 (v 11))] 11 1 1) (Hr e86)) Hn)))))) Hn))))
def p34 : PI := Ps (Pz (Pb 0 (Ps e191 (Pl (Ps (Ps e213 (Ps (Pb 1 (Ps (Pz (Pb 2 (Ps e152 (Pl (Ps (Ps (Ps (Pi [([(E2 (B.cmp (BinOp.gtr)) (v 6) (v 1), true)], Sk e23), ([(E2 (B.cmp (BinOp.gtr)) (v 6) (v 1), true)], Ss 7 e239), ([(E2 (B.cmp (BinOp.gtr)) (v 6) (v 1), true)], Sk e74), ([(E2 (B.cmp (BinOp.gtr)) (v 6) (v 1), true)], Ss 8 e271), ([(E2 (B.cmp (BinOp.gtr)) (v 6) (v 1), true)], Sc 33 [Ce 0 (v 7), Ce 1 (v 7), Ce 0 (v 8), Ce 1 (v 8)] 9 1), ([], Ss 10 (E3 (Tr.ite) e206 (Lt (v 9) (N 0)) (Xf)))]) (Pc (v 10) Pk e250)) (Ps (Pb 3 (Ps (Pi [([], Sk e74), ([], Ss 11 e271), ([], Sk e23), ([], Ss 12 e239), ([], Sk e23), ([], Ss 13 (E3 (Tr.setI) (v 5) (v 6) e71)), ([], Sk (An e122 (Lt e16 (Ln (v 13))))), ([], Ss 14 (E3 (Tr.setI) (v 13) e16 (E2 (B.cons) e188 (E2 (B.cons) e158 Xn))))]) (Pi [([], Sm 11 [v 14])]))) (Pi []))) (Pi [([], Sm 5 [v 11, Sb (v 6) (N 1)])])))))) e79)) (Pi []))) e104))))) e139
theorem i34 : Qi 34 p34 := zab (S := s34) (no0 := 1) (h := h34) tabOk (by kernel_rfl) Go.Proofs.Tryd.func75 rfl (by kernel_rfl) (by kernel_rfl)
def h35 : Hint := Hz (Hb e180 (Hl (Jn [(0, [], Js 0 55), (2, [], J 2), (3, [], J 3), (4, [], SV.s e3), (10, [], J 5)] [(0, [], Or true 55 (v 4))] 4 2 1) (Hb (Jn [(0, [], Js 0 55), (2, [], J 2), (3, [], J 3), (4, [], SV.s e3), (10, [], J 7)] [(0, [], Or true 55 (v 6))] 6 2 1) (Hz (Hs (Hz e8) (Hs (Hs (Hr (mt mo (mt mo (mt mo (mt mo (mt mo (mt mo (mt mo (mt mo (mt mo (mt mo (mt mo (mt (mf mo e214) (mf mo (mf mo e161))))))))))))))) (Hc (some (Jn [(0, [], Js 0 55), (2, [], J 2), (3, [], J 3), (4, [], SV.s e3), (10, [], J 5), (11, [], J 10)] [(0, [], Or true 55 (v 4))] 10 1 1)) Hn Hn)) (Hs (Hs (Hr (mt mo (mt mo (mt mo (mt mo (mt mo (mt mo (mt e255 (mf mo e161))))))))) e8) (Hs (Hr (mt mo (mt mo (mt mo (mt mo (mt mo (mt mo (mt mo (mt mo (mt mo (mt mo (mt mo (mt mo (mt mo (mt e255 (mf mo (mf mo e105))))))))))))))))) Hn))))))))
def p35 : PI := Ps (Pz (Pb 0 (Ps (Pi [([], Sm 4 [v 0, v 1])]) (Pl (Ps (Pb 1 (Ps (Pz (Ps (Pz (Pc (E2 (B.cmp (BinOp.geq)) e9 (v 2)) (Ps e177 (Px 0)) Pk)) (Ps (Ps (Pi [([(Lt e159 (v 2), true)], Sk (An (Le (N 0) e160) (Lt e160 e48))), ([(Lt e159 (v 2), true)], Ss 6 (Ix (v 4) e160)), ([(Lt e159 (v 2), true)], Sk (An (Le (N 0) e253) (Lt e253 e48))), ([(Lt e159 (v 2), true)], Ss 7 (Ix (v 4) e253)), ([(Lt e159 (v 2), true)], Sc 33 [Ce 0 (v 6), Ce 1 (v 6), Ce 0 (v 7), Ce 1 (v 7)] 8 1), ([], Ss 9 (E3 (Tr.ite) (Lt e159 (v 2)) (Lt (v 8) (N 0)) (Xf)))]) (Pc (v 9) (Pz (Pi [([], Sm 10 [Ad e9 (N 1)])])) (Ps Pk (Pi [([], Sm 10 [Ad e179 (N 1)])])))) (Ps (Ps (Pi [([], Sk e73), ([], Ss 11 (Ix (v 4) e156)), ([], Sk e221), ([], Ss 12 (Ix (v 4) e69)), ([], Sc 33 [Ce 0 (v 11), Ce 1 (v 11), Ce 0 (v 12), Ce 1 (v 12)] 13 1)]) (Pc (E1 (U.not) (Lt (v 13) (N 0))) e233 Pk)) (Ps (Pi [([], Sk e221), ([], Ss 14 (Ix (v 4) e69)), ([], Sk e73), ([], Ss 15 (Ix (v 4) e156)), ([], Sk e73), ([], Ss 16 (E3 (Tr.setI) (v 4) e156 e143)), ([], Sk (An (Le (N 0) e69) (Lt e69 (Ln (v 16))))), ([], Ss 17 (E3 (Tr.setI) (v 16) e69 (E2 (B.cons) (Ce 0 (v 15)) (E2 (B.cons) (Ce 1 (v 15)) Xn))))]) (Pi [])))))) (Pi [([], Sm 6 [v 17, v 10])]))) (Pi [([], Sm 4 [v 6, v 7])])))))) e233
theorem i35 : Qi 35 p35 := zab (S := s35) (no0 := 1) (h := h35) tabOk (by kernel_rfl) Go.Proofs.Tryd.func87 rfl (by kernel_rfl) (by kernel_rfl)
def h36 : Hint := Hz (Hz (Hz (Hs (Hz (Hb (Jn [(0, [], Js 0 55), (3, [], SV.s e3), (8, [], J 1), (9, [], SV.s e28), (10, [], SV.s e24)] [(0, [], Or true 55 (v 3))] 3 1 1) (Hl (Jn [(0, [], Js 0 55), (3, [], SV.s e3), (8, [], J 1), (9, [], SV.s e28), (10, [], SV.s e24), (11, [], J 4)] [(0, [], Or true 55 (v 3))] 3 2 1) (Hs (Hz e8) (Hs (Hb (Jn [(0, [], Js 0 55), (3, [], SV.s e3), (8, [], J 1), (9, [], SV.s e28), (10, [], SV.s e24), (11, [], J 4)] [(0, [], Or true 55 (v 5))] 5 1 1) Hn) Hn))))) (Hz (Hb e180 (Hl (Jn [(0, [], Js 0 55), (3, [], SV.s e3), (8, [], J 1), (9, [], SV.s e28), (12, [], J 5)] [(0, [], Or true 55 (v 4))] 4 2 1) (Hs (Hz e8) (Hs (Hb (Jn [(0, [], Js 0 55), (3, [], SV.s e3), (8, [], J 1), (9, [], SV.s e28), (12, [], J 5)] [(0, [], Or true 55 (v 6))] 6 1 1) (Hs e272 Hn)) Hn))))))))
def p36 : PI := Ps (Pz (Pz (Pz (Ps (Pz (Pb 0 (Ps (Pi [([], Sm 3 [v 0, E2 (B.ar (BinOp.quo) (.i64)) (Sb e43 (N 1)) (N 2)])]) (Pl (Ps (Ps (Pz (Pc (E2 (B.cmp (BinOp.geq)) (v 4) (N 0)) Pk e33)) (Ps (Pb 1 (Ps (Pi [([], Sc 35 [v 3, v 4, Sb (v 2) (v 1), v 1] 5 1)]) e79)) (Pi []))) (Pi [([], Sm 3 [v 5, Sb (v 4) (N 1)])])))))) (Pz (Pb 2 (Ps (Pi [([], Sm 4 [v 3, Sb e43 (N 1)])]) (Pl (Ps (Ps (Pz (Pc (E2 (B.cmp (BinOp.geq)) (v 5) (N 0)) Pk (Ps e177 (Px 2)))) (Ps (Pb 3 (Ps (Ps (Pi [([], Sk (An (Le (N 0) e127) (Lt e127 e48))), ([], Ss 6 (Ix (v 4) e127)), ([], Sk e282), ([], Ss 7 (Ix (v 4) (v 1))), ([], Sk e282), ([], Ss 8 (E3 (Tr.setI) (v 4) (v 1) e147)), ([], Sk (An (Le (N 0) e127) (Lt e127 e141))), ([], Ss 9 (E3 (Tr.setI) (v 8) e127 e75))]) (Pi [([], Sc 35 [v 9, N 0, v 5, v 1] 10 1)])) (Pi [([], Sm 6 [v 10])]))) (Pi []))) (Pi [([], Sm 4 [v 6, Sb (v 5) (N 1)])])))))))))) e233
theorem i36 : Qi 36 p36 := zab (S := s36) (no0 := 1) (h := h36) tabOk (by kernel_rfl) Go.Proofs.Tryd.func76 rfl (by kernel_rfl) (by kernel_rfl)
def h37 : Hint := Hz (Hz Hn)
def p37 : PI := Pz (Ps (Pi [([], Sc 24 [E1 (U.conv (.u64)) (v 0)] 1 1), ([], Sk (E2 (B.cmp (BinOp.geq)) (v 1) (N 0)))]) (Pr [E2 (B.ar (BinOp.shl) (.u64)) (N 1) (v 1)]))
theorem i37 : Qi 37 p37 := zab (S := s37) (no0 := 0) (h := h37) tabOk (by kernel_rfl) Go.Proofs.Tryd.func71 rfl (by kernel_rfl) (by kernel_rfl)
def h38 : Hint := Hz (Hs e44 (Hs e44 (Hs e44 (Hz Hn))))
def p38 : PI := Pz (Pz (Pz (Pz (Pz (Pr [E2 (B.ar (BinOp.xor) (.u64)) e100 (E2 (B.ar (BinOp.shl) (.u64)) e100 (N 17))])))))
theorem i38 : Qi 38 p38 := zab (S := s38) (no0 := 1) (h := h38) tabOk (by kernel_rfl) Go.Proofs.Tryd.func72 rfl (by kernel_rfl) (by kernel_rfl)
def h39 : Hint := Hz (Hz (Hc (some (Jn [] [(0, [], Or true 55 (v 3))] 3 1 2)) (Hz (Hz (Hz (Hb (Jn [] [(0, [], Or true 55 (v 4))] 4 1 2) (Hl (Jn [(0, [], Js 0 55), (1, [], J 1), (8, [], SV.s e24), (9, [], Jp 1 0), (10, [], SV.s e258), (11, [], J 6)] [(0, [], Or true 55 (v 4)), (1, [], Ob true [Lu 5])] 4 3 2) (Hs (Hz e8) (Hs (Hb (Jn [(0, [], Js 0 55), (1, [], J 1), (8, [], SV.s e24), (9, [], Jp 1 0), (10, [], SV.s e258), (11, [], J 6)] [(0, [], Or true 55 (v 7)), (1, [], Ob true [Lu 8])] 7 2 2) (Hz (Hs (Hz (Hc (some (Jn [(0, [], Js 0 55), (1, [], J 1), (8, [], SV.s e24), (9, [], Jp 1 0), (10, [], SV.s e258), (11, [], J 6), (12, [], J 8)] [(0, [], Or true 55 (v 4)), (1, [], Ob true [Lu 7])] 8 1 2)) Hn Hn)) e272))) Hn))))))) Hn))
def p39 : PI := Ps (Pz (Pz (Pc e211 (Ps (Pz (Ps (Pi [([], Sc 37 [Sb (v 2) (v 1)] 3 1)]) (Pz (Pb 0 (Ps (Pi [([], Sm 4 [v 0, E1 (U.conv (.u64)) e43, Sb (Ad (v 1) e42) (N 1)])]) (Pl (Ps (Ps (Pz (Pc (Le (v 6) (Ad (Ad (v 1) e42) (N 1))) Pk (Ps e177 (Px 0)))) (Ps (Pb 1 (Ps (Ps (Pi [([], Sc 38 [v 5] 7 1)]) (Ps (Pz (Pc (E2 (B.cmp (BinOp.geq)) e274 e43) (Pz (Pi [([], Sm 8 [Sb e274 e43])])) (Ps Pk (Pi [([], Sm 8 [E1 (U.conv (.i64)) e41])])))) (Pi [([], Sk (An (Le (N 0) e126) (Lt e126 e48))), ([], Ss 9 (Ix (v 4) e126)), ([], Sk e281), ([], Ss 10 (Ix (v 4) (v 6))), ([], Sk e281), ([], Ss 11 (E3 (Tr.setI) (v 4) (v 6) e146)), ([], Sk (An (Le (N 0) e126) (Lt e126 (Ln (v 11))))), ([], Ss 12 (E3 (Tr.setI) (v 11) e126 e72))]))) (Pi [([], Sm 7 [v 12, v 7])]))) (Pi []))) e170))))))) (Pi [([], Sm 3 [v 4])])) (Ps Pk (Pi [([], Sm 3 [v 0])]))))) e139
theorem i39 : Qi 39 p39 := zab (S := s39) (no0 := 1) (h := h39) tabOk (by kernel_rfl) Go.Proofs.Tryd.func77 rfl (by kernel_rfl) (by kernel_rfl)
def h40 : Hint := Hz (Hs (Hs (Hr (mt mo (mt mo (mt mo (mt mo (mt e93 (mf mo (mf mo e93)))))))) e242) (Hz Hn))
def p40 : PI := Pz (Ps (Ps (Pi [([], Sk e116), ([], Ss 4 e241), ([], Sk e45), ([], Ss 5 e95), ([], Sc 33 [Ce 0 (v 4), Ce 1 (v 4), Ce 0 (v 5), Ce 1 (v 5)] 6 1)]) (Pc (Lt (v 6) (N 0)) (Pz (Pz (Pr [Ad (v 3) (N 1), v 2, v 1]))) Pk)) (Pz (Pr [v 3, v 1, v 2])))
theorem i40 : Qi 40 p40 := zab (S := s40) (no0 := 2) (h := h40) tabOk (by kernel_rfl) Go.Proofs.Tryd.func94 rfl (by kernel_rfl) (by kernel_rfl)
def h41 : Hint := Hz (Hz (Hz e64))
def p41 : PI := Pz (Ps (Pi [([], Sc 40 [v 0, v 1, v 2, v 4] 5 3)]) (Ps (Pi [([], Sc 40 [v 0, v 7, v 3, v 5] 8 3)]) (Ps (Pi [([], Sc 40 [v 0, v 6, v 9, v 8] 11 3)]) (Pz (Pr [v 11, v 13])))))
theorem i41 : Qi 41 p41 := zab (S := s41) (no0 := 2) (h := h41) tabOk (by kernel_rfl) Go.Proofs.Tryd.func89 rfl (by kernel_rfl) (by kernel_rfl)
def h42 : Hint := Hz (Hz Hn)
def p42 : PI := Pz (Ps (Pi [([], Sc 41 [v 0, Sb (v 1) (N 1), v 1, Ad (v 1) (N 1), v 2] 3 2)]) (Pr [v 3, v 4]))
theorem i42 : Qi 42 p42 := zab (S := s42) (no0 := 2) (h := h42) tabOk (by kernel_rfl) Go.Proofs.Tryd.func88 rfl (by kernel_rfl) (by kernel_rfl)
def h43 : Hint := Hz (Hz (Hz (Hz (Hz (Hz (Hs (Hz (Hc (some (Jn [(11, [], Jp 1 0), (13, [], J 4)] [(0, [], Or false 55 (v 0)), (1, [], Ob true [Li 3])] 3 2 2)) (Hs (Hz (Hc (some (Jn [(0, [], Js 0 55), (3, [], SV.s e3), (11, [], Jp 1 0), (12, [], J 4), (13, [], J 5), (14, [], J 6)] [(0, [], Or false 55 (v 0)), (1, [], Ob true [Li 3])] 3 4 2)) e64 Hn)) Hn) Hn)) (Hz (Hk (Hz (Hc none (Hz Hn) (Hz (Hc none (Hz Hn) (Hz Hn)))))))))))))
def p43 : PI := Pz (Pz (Pz (Pz (Pz (Pz (Ps (Pz (Pc e211 (Ps (Ps (Pz (Pc (E2 (B.cmp (BinOp.geq)) e43 (N 50)) (Ps (Ps (Pi [([], Sc 42 [v 0, Ad (v 1) e186, N 0] 3 2)]) (Ps (Pi [([], Sc 42 [v 0, Ad (v 1) e42, v 3] 5 2)]) (Pi [([], Sc 42 [v 0, Ad (v 1) e185, v 5] 7 2)]))) (Pi [([], Sm 3 [v 7, v 4, v 6, v 8])])) (Ps Pk (Pi [([], Sm 3 [N 0, Ad (v 1) e186, Ad (v 1) e42, Ad (v 1) e185])])))) (Pi [([], Sc 41 [v 0, v 4, v 5, v 6, v 3] 7 2)])) (Pi [([], Sm 3 [v 7, v 8])])) (Ps Pk (Pi [([], Sm 3 [N 0, Ad (v 1) e42])])))) (Pz (Pb 0 (Pz (Pc (Ee (v 3) (N 0)) (Pz (Pr [v 4, N 1])) (Pz (Pc (Ee (v 3) (N 12)) (Pz (Pr [v 4, N 2])) (Pz (Pr [v 4, N 0]))))))))))))))
theorem i43 : Qi 43 p43 := zab (S := s43) (no0 := 1) (h := h43) tabOk (by kernel_rfl) Go.Proofs.Tryd.func78 rfl (by kernel_rfl) (by kernel_rfl)
def h44 : Hint := Hz (Hz (Hb e97 (Hl (Jn [(0, [], Js 0 55), (8, [], J 4), (9, [], J 5)] [(0, [], Or true 55 (v 3))] 3 3 1) (Hs (Hz e8) (Hb (Jn [(0, [], Js 0 55), (8, [], SV.s (Sq (Leaf.int (.i64) (Ad (v 4) (N 1))))), (9, [], SV.s (Sq (Leaf.int (.i64) e181)))] [(0, [], Or true 55 (v 6))] 6 1 1) e113)))))
def p44 : PI := Ps (Pz (Pz (Pb 0 (Ps (Pi [([], Sm 3 [v 0, v 1, Sb (v 2) (N 1)])]) (Pl (Ps (Ps (Pz (Pc (Lt (v 4) (v 5)) Pk e33)) (Pb 1 (Ps (Ps (Pi [([], Sk (An e153 (Lt (v 5) e49))), ([], Ss 6 (Ix (v 3) (v 5))), ([], Sk e276), ([], Ss 7 (Ix (v 3) (v 4))), ([], Sk e276), ([], Ss 8 (E3 (Tr.setI) (v 3) (v 4) e147)), ([], Sk (An e153 (Lt (v 5) e141))), ([], Ss 9 (E3 (Tr.setI) (v 8) (v 5) e75))]) e110) (Pi [([], Sm 6 [v 9])])))) (Pi [([], Sm 3 [v 6, Ad (v 4) (N 1), Sb (v 5) (N 1)])]))))))) e139
theorem i44 : Qi 44 p44 := zab (S := s44) (no0 := 1) (h := h44) tabOk (by kernel_rfl) Go.Proofs.Tryd.func79 rfl (by kernel_rfl) (by kernel_rfl)
def h45 : Hint := Hz (Hz (Hs (Hz (Hb e97 (Hl (Jn [(0, [], Js 0 55), (1, [], J 1), (2, [], J 2), (3, [], SV.s e3), (9, [], J 4), (10, [], J 5)] [(0, [], Or true 55 (v 3))] 3 3 1) (Hs (Hz e8) (Hs (Hb (Jn [(0, [], Js 0 55), (1, [], J 1), (2, [], J 2), (3, [], SV.s e3), (9, [], J 7), (10, [], J 5)] [(0, [], Or true 55 (v 6))] 6 2 1) (Hs (Hb e52 (Hl e52 (Hs (Hs (Hr (mt mo (mt mo (mt mo (mt mo (mt mo (mt mo (mt mo (mt mo (mt e4 (mf mo e105))))))))))) e8) (Hb (Jn [(0, [], Js 0 55), (1, [], J 1), (2, [], J 2), (3, [], SV.s e3), (9, [], SV.s (Sq (Leaf.int (.i64) (Ad (v 6) (N 1))))), (10, [], J 5)] [(0, [], Or true 55 (v 3))] 11 0 1) Hn)))) (Hs e5 (Hs e5 (Hs (Hr e86) (Hs (Hz (Hc (some e51) (Hz (Hb e51 (Hl (Jn [(0, [], Js 0 55), (1, [], J 1), (2, [], J 2), (3, [], SV.s e3), (9, [], J 6), (10, [], J 5), (11, [], J 12)] [(0, [], Or true 55 (v 11))] 11 2 1) (Hs (Hz e8) (Hs (Hb (Jn [(0, [], Js 0 55), (1, [], J 1), (2, [], J 2), (3, [], SV.s e3), (9, [], J 6), (10, [], J 5), (11, [], J 12)] [(0, [], Or true 55 (v 13))] 13 1 1) e226) Hn))))) Hn)) (Hz (Hc (some e50) (Hz (Hb e50 (Hl (Jn [(0, [], Js 0 55), (1, [], J 1), (2, [], J 2), (3, [], SV.s e3), (9, [], J 6), (10, [], J 5), (12, [], J 13)] [(0, [], Or true 55 (v 12))] 12 2 1) (Hs (Hz e8) (Hs (Hb (Jn [(0, [], Js 0 55), (1, [], J 1), (2, [], J 2), (3, [], SV.s e3), (9, [], J 6), (10, [], J 5), (12, [], J 13)] [(0, [], Or true 55 (v 14))] 14 1 1) e226) Hn))))) Hn)))))))) Hn))))) (Hz Hn)))
def p45 : PI := Pz (Pz (Ps (Pz (Pb 0 (Ps (Pi [([], Sm 3 [v 0, Ad (v 1) (N 1), N 0])]) (Pl (Ps (Ps (Pz (Pc (Lt (v 5) (N 5)) Pk e33)) (Ps (Pb 1 (Ps (Ps (Pb 2 (Ps (Pi [([], Sm 6 [v 4])]) (Pl (Ps (Ps (Ps (Pi [([(Lt (v 6) (v 2), true)], Sk e131), ([(Lt (v 6) (v 2), true)], Ss 7 (Ix (v 3) (v 6))), ([(Lt (v 6) (v 2), true)], Sk e290), ([(Lt (v 6) (v 2), true)], Ss 8 (Ix (v 3) e16)), ([(Lt (v 6) (v 2), true)], Sc 33 [Ce 0 (v 7), Ce 1 (v 7), Ce 0 (v 8), Ce 1 (v 8)] 9 1), ([], Ss 10 (E3 (Tr.ite) (Lt (v 6) (v 2)) (E1 (U.not) (Lt (v 9) (N 0))) (Xf)))]) (Pc (v 10) Pk (Ps (Pi [([], Sm 6 [v 6])]) (Px 2)))) (Pb 3 (Pz e195))) (Pi [([], Sm 6 [Ad (v 6) (N 1)])]))))) (Ps (Pz (Pc (Ee (v 6) (v 2)) (Pz (Pr [v 3, Xt])) Pk)) (Ps (Pz (Pc (Lt e43 (N 50)) (Pz (Pr [v 3, Xf])) Pk)) (Ps (Pi [([], Sk e290), ([], Ss 7 (Ix (v 3) e16)), ([], Sk e131), ([], Ss 8 (Ix (v 3) (v 6))), ([], Sk e131), ([], Ss 9 (E3 (Tr.setI) (v 3) (v 6) e75)), ([], Sk e229), ([], Ss 10 (E3 (Tr.setI) (v 9) e16 (E2 (B.cons) e115 (E2 (B.cons) e29 Xn))))]) (Ps (Pz (Pc (E2 (B.cmp (BinOp.geq)) (Sb (v 6) (v 1)) (N 2)) (Ps (Pz (Pb 4 (Ps (Pi [([], Sm 11 [v 10, Sb (v 6) (N 1)])]) (Pl (Ps (Ps (Pz (Pc (E2 (B.cmp (BinOp.geq)) (v 12) (N 1)) Pk (Ps e118 (Px 4)))) (Ps (Pb 5 (Ps (Ps (Ps (Pi [([], Sk e135), ([], Ss 13 (Ix (v 11) (v 12))), ([], Sk e190), ([], Ss 14 (Ix (v 11) e54)), ([], Sc 33 [Ce 0 (v 13), Ce 1 (v 13), Ce 0 (v 14), Ce 1 (v 14)] 15 1)]) (Pc (E1 (U.not) (Lt (v 15) (N 0))) (Ps e118 (Px 4)) Pk)) (Pi [([], Sk e190), ([], Ss 16 (Ix (v 11) e54)), ([], Sk e135), ([], Ss 17 (Ix (v 11) (v 12))), ([], Sk e135), ([], Ss 18 (E3 (Tr.setI) (v 11) (v 12) e142)), ([], Sk (An (Le (N 0) e54) (Lt e54 (Ln (v 18))))), ([], Ss 19 (E3 (Tr.setI) (v 18) e54 e70))])) (Pi [([], Sm 13 [v 19])]))) (Pi []))) (Pi [([], Sm 11 [v 13, Sb (v 12) (N 1)])])))))) e118) (Ps Pk (Pi [([], Sm 11 [v 10])])))) (Pz (Pc (E2 (B.cmp (BinOp.geq)) (Sb (v 2) (v 6)) (N 2)) (Ps (Pz (Pb 6 (Ps (Pi [([], Sm 12 [v 11, Ad (v 6) (N 1)])]) (Pl (Ps (Ps (Pz (Pc (Lt (v 13) (v 2)) Pk (Ps e117 (Px 6)))) (Ps (Pb 7 (Ps (Ps (Ps (Pi [([], Sk e91), ([], Ss 14 (Ix (v 12) (v 13))), ([], Sk e189), ([], Ss 15 (Ix (v 12) e67)), ([], Sc 33 [Ce 0 (v 14), Ce 1 (v 14), Ce 0 (v 15), Ce 1 (v 15)] 16 1)]) (Pc (E1 (U.not) (Lt (v 16) (N 0))) (Ps e117 (Px 6)) Pk)) (Pi [([], Sk e189), ([], Ss 17 (Ix (v 12) e67)), ([], Sk e91), ([], Ss 18 (Ix (v 12) (v 13))), ([], Sk e91), ([], Ss 19 (E3 (Tr.setI) (v 12) (v 13) e70)), ([], Sk (An (Le (N 0) e67) (Lt e67 (Ln (v 19))))), ([], Ss 20 (E3 (Tr.setI) (v 19) e67 (E2 (B.cons) (Ce 0 (v 18)) (E2 (B.cons) (Ce 1 (v 18)) Xn))))])) (Pi [([], Sm 14 [v 20])]))) (Pi []))) (Pi [([], Sm 12 [v 14, Ad (v 13) (N 1)])])))))) e117) (Ps Pk (Pi [([], Sm 12 [v 11])]))))))))) (Pi [([], Sm 6 [v 12, v 6])]))) (Pi []))) (Pi [([], Sm 3 [v 6, v 7, Ad (v 5) (N 1)])])))))) (Pz (Pr [v 3, Xf]))))
theorem i45 : Qi 45 p45 := zab (S := s45) (no0 := 1) (h := h45) tabOk (by kernel_rfl) Go.Proofs.Tryd.func80 rfl (by kernel_rfl) (by kernel_rfl)
def h46 : Hint := Hz (Hs (Hr e1) (Hz (Hs (Hb (Jn [(11, [], J 9)] [(0, [], Or true 55 (v 8))] 8 2 1) (Hl (Jn [(0, [], Js 0 55), (1, [], J 1), (4, [], SV.s e3), (11, [], J 9), (12, [], J 10)] [(0, [], Or true 55 (v 8))] 8 3 1) (Hb (Jn [(0, [], Js 0 55), (1, [], J 1), (4, [], SV.s e3), (11, [], J 12), (12, [], J 13)] [(0, [], Or true 55 (v 11))] 11 3 1) (Hs (Hb e62 (Hl e62 (Hs (Hs e165 e8) (Hb (Jn [(0, [], Js 0 55), (1, [], J 1), (4, [], SV.s e3), (11, [], SV.s (Sq (Leaf.int (.i64) (Ad (v 11) (N 1))))), (12, [], J 10)] [(0, [], Or true 55 (v 8))] 16 0 1) Hn)))) (Hs (Hb e61 (Hl e61 (Hs e27 (Hb (Jn [(0, [], Js 0 55), (1, [], J 1), (4, [], SV.s e3), (11, [], J 11), (12, [], SV.s (Sq (Leaf.int (.i64) e54)))] [(0, [], Or true 55 (v 8))] 17 0 1) Hn)))) (Hs (Hz e8) e113)))))) (Hz Hn))))
def p46 : PI := Pz (Ps e12 (Pz (Ps (Pb 0 (Ps (Pi [([], Sm 8 [v 7, Ad (v 1) (N 1), Sb (v 2) (N 1)])]) (Pl (Ps (Pb 1 (Ps (Ps (Pb 2 (Ps (Pi [([], Sm 11 [v 9])]) (Pl (Ps (Ps (Ps (Pi [([(Le (v 11) (v 10), true)], Sk e275), ([(Le (v 11) (v 10), true)], Ss 12 (Ix (v 8) (v 1))), ([(Le (v 11) (v 10), true)], Sk e169), ([(Le (v 11) (v 10), true)], Ss 13 (Ix (v 8) (v 11))), ([(Le (v 11) (v 10), true)], Sc 33 [Ce 0 (v 12), Ce 1 (v 12), Ce 0 (v 13), Ce 1 (v 13)] 14 1), ([], Ss 15 (E3 (Tr.ite) (Le (v 11) (v 10)) (E1 (U.not) (Lt (v 14) (N 0))) (Xf)))]) (Pc (v 15) Pk (Ps e118 (Px 2)))) (Pb 3 (Pz (Pi [([], Sm 16 [])])))) (Pi [([], Sm 11 [Ad (v 11) (N 1)])]))))) (Ps (Pb 4 (Ps (Pi [([], Sm 12 [v 10])]) (Pl (Ps (Ps (Ps (Pi [([(Le (v 11) (v 12), true)], Sk e275), ([(Le (v 11) (v 12), true)], Ss 13 (Ix (v 8) (v 1))), ([(Le (v 11) (v 12), true)], Sk e264), ([(Le (v 11) (v 12), true)], Ss 14 (Ix (v 8) (v 12))), ([(Le (v 11) (v 12), true)], Sc 33 [Ce 0 (v 13), Ce 1 (v 13), Ce 0 (v 14), Ce 1 (v 14)] 15 1), ([], Ss 16 (E3 (Tr.ite) (Le (v 11) (v 12)) (Lt (v 15) (N 0)) (Xf)))]) (Pc (v 16) Pk (Ps e117 (Px 4)))) (Pb 5 (Pz (Pi [([], Sm 17 [])])))) (Pi [([], Sm 12 [Sb (v 12) (N 1)])]))))) (Ps (Pz (Pc (E2 (B.cmp (BinOp.gtr)) (v 11) (v 12)) (Ps (Pi [([], Sm 8 [v 8, v 11])]) (Px 0)) Pk)) (Ps (Pi [([], Sk e264), ([], Ss 13 (Ix (v 8) (v 12))), ([], Sk e169), ([], Ss 14 (Ix (v 8) (v 11))), ([], Sk e169), ([], Ss 15 (E3 (Tr.setI) (v 8) (v 11) (E2 (B.cons) (Ce 0 (v 13)) (E2 (B.cons) (Ce 1 (v 13)) Xn)))), ([], Sk (An e81 (Lt (v 12) e151))), ([], Ss 16 (E3 (Tr.setI) (v 15) (v 12) e143))]) e110)))) (Pi [([], Sm 11 [v 16, Ad (v 11) (N 1), Sb (v 12) (N 1)])]))) (Pi [([], Sm 8 [v 11, v 12, v 13])]))))) (Pz (Pr [v 8, v 9])))))
theorem i46 : Qi 46 p46 := zab (S := s46) (no0 := 1) (h := h46) tabOk (by kernel_rfl) Go.Proofs.Tryd.func81 rfl (by kernel_rfl) (by kernel_rfl)
def h47 : Hint := Hz (Hs (Hr e1) (Hz (Hs (Hb e37 (Hl e37 (Hs e27 (Hb (Jn [(0, [], Js 0 55), (1, [], J 1), (4, [], SV.s e3), (12, [], SV.s (Sq (Leaf.int (.i64) (Ad (v 8) (N 1))))), (13, [], SV.s e246)] [(0, [], Or true 55 (v 7))] 13 0 1) Hn)))) (Hs (Hb e65 (Hl e65 (Hs (Hs e165 e8) (Hb (Jn [(0, [], Js 0 55), (1, [], J 1), (4, [], SV.s e3), (12, [], J 8), (13, [], SV.s (Sq (Leaf.int (.i64) (Sb (v 9) (N 1)))))] [(0, [], Or true 55 (v 7))] 14 0 1) Hn)))) (Hs (Hz (Hc none e113 Hn)) (Hs (Hr e1) (Hz (Hz (Hs (Hb (Jn [(0, [], Js 0 55), (1, [], J 1), (13, [], J 15)] [(0, [], Or true 55 (v 14))] 14 2 1) (Hl (Jn [(0, [], Js 0 55), (1, [], J 1), (4, [], SV.s e3), (12, [], J 15), (13, [], J 16)] [(0, [], Or true 55 (v 14))] 14 3 1) (Hb (Jn [(0, [], Js 0 55), (1, [], J 1), (4, [], SV.s e3), (12, [], J 18), (13, [], J 19)] [(0, [], Or true 55 (v 17))] 17 3 1) (Hs (Hb e59 (Hl e59 (Hs e27 (Hb (Jn [(0, [], Js 0 55), (1, [], J 1), (4, [], SV.s e3), (12, [], SV.s (Sq (Leaf.int (.i64) (Ad (v 17) (N 1))))), (13, [], J 16)] [(0, [], Or true 55 (v 14))] 22 0 1) Hn)))) (Hs (Hb e58 (Hl e58 (Hs (Hs e165 e8) (Hb (Jn [(0, [], Js 0 55), (1, [], J 1), (4, [], SV.s e3), (12, [], J 17), (13, [], SV.s (Sq (Leaf.int (.i64) (Sb (v 18) (N 1)))))] [(0, [], Or true 55 (v 14))] 23 0 1) Hn)))) (Hs (Hz e8) e113)))))) e113)))))))))
def p47 : PI := Pz (Ps e12 (Pz (Ps (Pb 0 (Ps (Pi [([], Sm 8 [Ad (v 1) (N 1)])]) (Pl (Ps (Ps (Ps (Pi [([(Le (v 8) e76, true)], Sk e35), ([(Le (v 8) e76, true)], Ss 9 e184), ([(Le (v 8) e76, true)], Sk e148), ([(Le (v 8) e76, true)], Ss 10 e238), ([(Le (v 8) e76, true)], Sc 33 [Ce 0 (v 9), Ce 1 (v 9), Ce 0 (v 10), Ce 1 (v 10)] 11 1), ([], Ss 12 (E3 (Tr.ite) (Le (v 8) e76) (Lt (v 11) (N 0)) (Xf)))]) (Pc (v 12) Pk (Ps (Pi [([], Sm 8 [v 8])]) (Px 0)))) (Pb 1 (Pz (Pi [([], Sm 13 [])])))) (Pi [([], Sm 8 [Ad (v 8) (N 1)])]))))) (Ps (Pb 2 (Ps (Pi [([], Sm 9 [Sb (v 2) (N 1)])]) (Pl (Ps (Ps (Ps (Pi [([(Le (v 8) (v 9), true)], Sk e60), ([(Le (v 8) (v 9), true)], Ss 10 e237), ([(Le (v 8) (v 9), true)], Sk e148), ([(Le (v 8) (v 9), true)], Ss 11 e238), ([(Le (v 8) (v 9), true)], Sc 33 [Ce 0 (v 10), Ce 1 (v 10), Ce 0 (v 11), Ce 1 (v 11)] 12 1), ([], Ss 13 (E3 (Tr.ite) (Le (v 8) (v 9)) (E1 (U.not) (Lt (v 12) (N 0))) (Xf)))]) (Pc (v 13) Pk (Ps (Pi [([], Sm 9 [v 9])]) (Px 2)))) (Pb 3 (Pz (Pi [([], Sm 14 [])])))) (Pi [([], Sm 9 [Sb (v 9) (N 1)])]))))) (Ps (Pz (Pc (E2 (B.cmp (BinOp.gtr)) (v 8) (v 9)) (Ps (Pi [([], Sk e148), ([], Ss 10 e238), ([], Sk e60), ([], Ss 11 e237), ([], Sk e60), ([], Ss 12 (E3 (Tr.setI) (v 7) (v 9) e72)), ([], Sk (An e18 (Lt (v 1) e262))), ([], Ss 13 (E3 (Tr.setI) (v 12) (v 1) e71))]) (Pz (Pr [v 13, v 9, Xt]))) Pk)) (Ps (Pi [([], Sk e60), ([], Ss 10 e237), ([], Sk e35), ([], Ss 11 e184), ([], Sk e35), ([], Ss 12 (E3 (Tr.setI) (v 7) (v 8) e72)), ([], Sk (An (Le (N 0) (v 9)) (Lt (v 9) e262))), ([], Ss 13 (E3 (Tr.setI) (v 12) (v 9) e71))]) (Pz (Pz (Ps (Pb 4 (Ps (Pi [([], Sm 14 [v 13, Ad (v 8) (N 1), Sb (v 9) (N 1)])]) (Pl (Ps (Pb 5 (Ps (Ps (Pb 6 (Ps (Pi [([], Sm 17 [v 15])]) (Pl (Ps (Ps (Ps (Pi [([(Le (v 17) (v 16), true)], Sk e90), ([(Le (v 17) (v 16), true)], Ss 18 (Ix (v 14) (v 17))), ([(Le (v 17) (v 16), true)], Sk e174), ([(Le (v 17) (v 16), true)], Ss 19 e225), ([(Le (v 17) (v 16), true)], Sc 33 [Ce 0 (v 18), Ce 1 (v 18), Ce 0 (v 19), Ce 1 (v 19)] 20 1), ([], Ss 21 (E3 (Tr.ite) (Le (v 17) (v 16)) (Lt (v 20) (N 0)) (Xf)))]) (Pc (v 21) Pk (Ps e261 (Px 6)))) (Pb 7 (Pz (Pi [([], Sm 22 [])])))) (Pi [([], Sm 17 [Ad (v 17) (N 1)])]))))) (Ps (Pb 8 (Ps (Pi [([], Sm 18 [v 16])]) (Pl (Ps (Ps (Ps (Pi [([(Le (v 17) (v 18), true)], Sk e194), ([(Le (v 17) (v 18), true)], Ss 19 (Ix (v 14) (v 18))), ([(Le (v 17) (v 18), true)], Sk e174), ([(Le (v 17) (v 18), true)], Ss 20 e225), ([(Le (v 17) (v 18), true)], Sc 33 [Ce 0 (v 19), Ce 1 (v 19), Ce 0 (v 20), Ce 1 (v 20)] 21 1), ([], Ss 22 (E3 (Tr.ite) (Le (v 17) (v 18)) (E1 (U.not) (Lt (v 21) (N 0))) (Xf)))]) (Pc (v 22) Pk (Ps (Pi [([], Sm 18 [v 18])]) (Px 8)))) (Pb 9 (Pz (Pi [([], Sm 23 [])])))) (Pi [([], Sm 18 [Sb (v 18) (N 1)])]))))) (Ps (Pz (Pc (E2 (B.cmp (BinOp.gtr)) (v 17) (v 18)) (Ps (Pi [([], Sm 14 [v 14, v 18])]) (Px 4)) Pk)) (Ps (Pi [([], Sk e194), ([], Ss 19 (Ix (v 14) (v 18))), ([], Sk e90), ([], Ss 20 (Ix (v 14) (v 17))), ([], Sk e90), ([], Ss 21 (E3 (Tr.setI) (v 14) (v 17) (E2 (B.cons) (Ce 0 (v 19)) (E2 (B.cons) (Ce 1 (v 19)) Xn)))), ([], Sk (An (Le (N 0) (v 18)) (Lt (v 18) (Ln (v 21))))), ([], Ss 22 (E3 (Tr.setI) (v 21) (v 18) (E2 (B.cons) e187 (E2 (B.cons) e144 Xn))))]) e110)))) (Pi [([], Sm 17 [v 22, Ad (v 17) (N 1), Sb (v 18) (N 1)])]))) (Pi [([], Sm 14 [v 17, v 18, v 19])]))))) (Ps (Pi [([], Sk e174), ([], Ss 16 e225), ([], Sk e252), ([], Ss 17 (Ix (v 14) (v 15))), ([], Sk e252), ([], Ss 18 (E3 (Tr.setI) (v 14) (v 15) e142)), ([], Sk (An e18 (Lt (v 1) (Ln (v 18))))), ([], Ss 19 (E3 (Tr.setI) (v 18) (v 1) e70))]) (Pz (Pr [v 19, v 15, Xf]))))))))))))
theorem i47 : Qi 47 p47 := zab (S := s47) (no0 := 1) (h := h47) tabOk (by kernel_rfl) Go.Proofs.Tryd.func82 rfl (by kernel_rfl) (by kernel_rfl)
def h48 : Hint := Hz (Hz (Hk (Hl (Jn [(0, [], Js 0 55), (1, [], J 5), (2, [], J 2), (3, [], J 6), (4, [], SV.s e3), (10, [], SV.s e57), (11, [], SV.s e57)] [(0, [], Or true 55 (v 4))] 4 3 1) (Hb (Jn [(0, [], Js 0 55), (1, [], J 8), (2, [], J 2), (3, [], J 9), (4, [], SV.s e3), (10, [], SV.s e57), (11, [], SV.s e57)] [(0, [], Or true 55 (v 7))] 7 3 1) (Hz (Hs e5 (Hs e5 (Hs (Hz (Hc (some (Jn [(0, [], Js 0 55), (1, [], J 5), (2, [], J 2), (3, [], J 8), (4, [], SV.s e3), (10, [], SV.s e57), (11, [], SV.s e57), (12, [], SV.s e102)] [(0, [], Or true 55 (v 7))] 7 2 1)) (Hz Hn) Hn)) (Hz (Hs (Hz (Hc (some (Jn [(0, [], Js 0 55), (1, [], J 5), (2, [], J 2), (3, [], J 8), (4, [], SV.s e3), (10, [], SV.s e57), (11, [], SV.s e57), (12, [], SV.s e102), (13, [], J 12), (14, [], J 13)] [(0, [], Or true 55 (v 11))] 11 3 1)) e64 Hn)) (Hs (Hz (Hc (some (Jn [(0, [], Js 0 55), (1, [], J 5), (2, [], J 2), (3, [], J 8), (4, [], SV.s e3), (10, [], SV.s e57), (11, [], SV.s e57), (12, [], SV.s e102), (13, [], J 12)] [(0, [], Or true 55 (v 16))] 16 1 1)) (Hz e8) Hn)) (Hs (Hs e165 e242) (Hz (Hz (Hz (Hz (Hz (Hc none (Hz (Hint.stuck)) (Hz (Hint.stuck))))))))))))))))))))
def p48 : PI := Pz (Pz (Pb 0 (Ps (Pi [([], Sm 4 [v 0, v 1, v 3])]) (Pl (Ps (Pb 1 (Pz (Ps (Pz (Pc (Le (Sb (v 2) (v 5)) (N 12)) (Ps (Pi [([], Sc 34 [v 4, v 5, v 2] 7 1)]) e283) Pk)) (Ps (Pz (Pc (Ee (v 6) (N 0)) (Ps (Pi [([], Sc 36 [v 4, v 5, v 2] 7 1)]) e283) Pk)) (Ps (Pz (Pc (E1 (U.not) (Xt)) (Ps (Ps (Pi [([], Sc 39 [v 4, v 5, v 2] 7 1)]) (Pi [])) (Pi [([], Sm 7 [v 7, Sb (v 6) (N 1)])])) (Ps Pk (Pi [([], Sm 7 [v 4, v 6])])))) (Ps (Pi [([], Sc 43 [v 7, v 5, v 2] 9 2)]) (Ps (Pz (Pc (Ee (v 10) (N 2)) (Ps (Ps (Pi [([], Sc 44 [v 7, v 5, v 2] 11 1)]) e110) (Pi [([], Sm 11 [v 11, Sb e76 (Sb (v 9) (v 5)), N 1])])) (Ps Pk (Pi [([], Sm 11 [v 7, v 9, v 10])])))) (Ps (Ps (Pi [([], Ss 14 (E3 (Tr.ite) (Xt) (Xt) (Xf))), ([], Ss 15 (E3 (Tr.ite) (v 14) (Ee (v 13) (N 1)) (Xf)))]) (Pc (v 15) (Ps (Ps (Pi [([], Sc 45 [v 11, v 5, v 2] 16 2)]) (Pc (v 17) (Pr [v 16]) Pk)) (Pi [([], Sm 16 [v 16])])) (Ps Pk (Pi [([], Sm 16 [v 11])])))) (Ps (Ps (Pi [([(E2 (B.cmp (BinOp.gtr)) (v 5) (N 0), true)], Sk (An (Le (N 0) e181) (Lt e181 (Ln (v 16))))), ([(E2 (B.cmp (BinOp.gtr)) (v 5) (N 0), true)], Ss 17 (Ix (v 16) e181)), ([(E2 (B.cmp (BinOp.gtr)) (v 5) (N 0), true)], Sk (An e81 (Lt (v 12) (Ln (v 16))))), ([(E2 (B.cmp (BinOp.gtr)) (v 5) (N 0), true)], Ss 18 (Ix (v 16) (v 12))), ([(E2 (B.cmp (BinOp.gtr)) (v 5) (N 0), true)], Sc 33 [Ce 0 (v 17), Ce 1 (v 17), Ce 0 (v 18), Ce 1 (v 18)] 19 1), ([], Ss 20 (E3 (Tr.ite) (E2 (B.cmp (BinOp.gtr)) (v 5) (N 0)) (E1 (U.not) (Lt (v 19) (N 0))) (Xf)))]) (Pc (v 20) (Ps (Pi [([], Sc 46 [v 16, v 5, v 2, v 12] 21 2)]) (Pz (Ps (Pi [([], Sm 7 [v 21, v 22, v 8])]) (Px 1)))) Pk)) (Ps (Pi [([], Sc 47 [v 16, v 5, v 2, v 12] 21 3)]) (Pz (Pz (Pz (Pz (Pc (Lt (Sb (v 22) (v 5)) (Sb (v 2) (v 22))) (Pz e103) (Pz e103)))))))))))))))) (Pi [([], Sm 4 [v 7, v 8, v 9])]))))))
theorem i48 : Qi 48 p48 := zab (S := s48) (no0 := 1) (h := h48) tabOk (by kernel_rfl) Go.Proofs.Tryd.func64 rfl (by kernel_rfl) (by kernel_rfl)
def h49 : Hint := Hz (Hz (Hk (Hl (Jn [(0, [], Js 0 55), (1, [], J 5), (2, [], J 6), (3, [], J 7), (4, [], SV.s e3), (10, [], SV.s e136), (11, [], SV.s e199)] [(0, [], Or true 55 (v 4))] 4 6 1) (Hb (Jn [(0, [], Js 0 55), (1, [], J 11), (2, [], J 12), (3, [], J 13), (4, [], SV.s e3), (10, [], SV.s (Sq (Lb (v 14)))), (11, [], SV.s (Sq (Lb (v 15))))] [(0, [], Or true 55 (v 10))] 10 6 1) (Hz (Hs e5 (Hs e5 (Hs (Hz (Hc (some (Jn [(0, [], Js 0 55), (1, [], J 5), (2, [], J 6), (3, [], J 11), (4, [], SV.s e3), (10, [], SV.s e136), (11, [], SV.s e199), (12, [], SV.s e101)] [(0, [], Or true 55 (v 10))] 10 2 1)) (Hz Hn) Hn)) (Hz (Hs (Hz (Hc (some (Jn [(0, [], Js 0 55), (1, [], J 5), (2, [], J 6), (3, [], J 11), (4, [], SV.s e3), (10, [], SV.s e136), (11, [], SV.s e199), (12, [], SV.s e101), (13, [], J 15), (14, [], J 16)] [(0, [], Or true 55 (v 14))] 14 3 1)) e64 Hn)) (Hs (Hz (Hc (some (Jn [(0, [], Js 0 55), (1, [], J 5), (2, [], J 6), (3, [], J 11), (4, [], SV.s e3), (10, [], SV.s e136), (11, [], SV.s e199), (12, [], SV.s e101), (13, [], J 15)] [(0, [], Or true 55 (v 19))] 19 1 1)) (Hz e8) Hn)) (Hs (Hs e165 e242) (Hz (Hz (Hz (Hz (Hz (Hc (some (Jn [(0, [], Js 0 55), (1, [], J 28), (2, [], J 29), (3, [], J 11), (4, [], SV.s e3), (10, [], SV.s (Sq (Lb (v 30)))), (11, [], SV.s (Sq (Lb (v 26))))] [(0, [], Or true 55 (v 27))] 27 4 1)) e64 e64))))))))))))))))))
def pq1 (z9 : Nat) : PI := Pz (Pz (Pb 0 (Ps (Pi [([], Sm 4 [v 0, v 1, v 2, v 3, Xt, Xt])]) (Pl (Ps (Pb 1 (Ps (Pz (Ps (Pz (Pc (Le (Sb (v 6) (v 5)) (N 12)) (Ps (Pi [([], Sc 34 [v 4, v 5, v 6] 10 1)]) (Pr [v 10])) Pk)) (Ps (Pz (Pc (Ee (v 7) (N 0)) (Ps (Pi [([], Sc 36 [v 4, v 5, v 6] 10 1)]) (Pr [v 10])) Pk)) (Ps (Pz (Pc (E1 (U.not) (v 8)) (Ps (Ps (Pi [([], Sc 39 [v 4, v 5, v 6] 10 1)]) (Pi [])) (Pi [([], Sm 10 [v 10, Sb (v 7) (N 1)])])) (Ps Pk (Pi [([], Sm 10 [v 4, v 7])])))) (Ps (Pi [([], Sc 43 [v 10, v 5, v 6] 12 2)]) (Ps (Pz (Pc (Ee (v 13) (N 2)) (Ps (Ps (Pi [([], Sc 44 [v 10, v 5, v 6] 14 1)]) (Pz (Pi []))) (Pi [([], Sm 14 [v 14, Sb (Sb (v 6) (N 1)) (Sb (v 12) (v 5)), N 1])])) (Ps Pk (Pi [([], Sm 14 [v 10, v 12, v 13])])))) (Ps (Ps (Pi [([], Ss 17 (E3 (Tr.ite) (v 8) (v 9) (Xf))), ([], Ss 18 (E3 (Tr.ite) (v 17) (Ee (v 16) (N 1)) (Xf)))]) (Pc (v 18) (Ps (Ps (Pi [([], Sc 45 [v 14, v 5, v 6] 19 2)]) (Pc (v 20) (Pr [v 19]) Pk)) (Pi [([], Sm 19 [v 19])])) (Ps Pk (Pi [([], Sm 19 [v 14])])))) (Ps (Ps (Pi [([(E2 (B.cmp (BinOp.gtr)) (v 5) (N 0), true)], Sk (An (Le (N 0) (Sb (v 5) (N 1))) (Lt (Sb (v 5) (N 1)) (Ln (v 19))))), ([(E2 (B.cmp (BinOp.gtr)) (v 5) (N 0), true)], Ss 20 (Ix (v 19) (Sb (v 5) (N 1)))), ([(E2 (B.cmp (BinOp.gtr)) (v 5) (N 0), true)], Sk (An (Le (N 0) (v 15)) (Lt (v 15) (Ln (v 19))))), ([(E2 (B.cmp (BinOp.gtr)) (v 5) (N 0), true)], Ss 21 (Ix (v 19) (v 15))), ([(E2 (B.cmp (BinOp.gtr)) (v 5) (N 0), true)], Sc 33 [Ce 0 (v 20), Ce 1 (v 20), Ce 0 (v 21), Ce 1 (v 21)] 22 1), ([], Ss 23 (E3 (Tr.ite) (E2 (B.cmp (BinOp.gtr)) (v 5) (N 0)) (E1 (U.not) (Lt (v 22) (N 0))) (Xf)))]) (Pc (v 23) (Ps (Pi [([], Sc 46 [v 19, v 5, v 6, v 15] 24 2)]) (Pz (Ps (Pi [([], Sm 10 [v 24, v 25, v 6, v 11, v 8, v 9])]) (Px 1)))) Pk)) (Ps (Pi [([], Sc 47 [v 19, v 5, v 6, v 15] 24 3)]) (Pz (Pz (Pz (Pz (Pc (Lt (Sb (v 25) (v 5)) (Sb (v 6) (v 25))) (Ps (Pz (Ps (Pi [([], Sc z9 [v 24, v 5, v 25, v 11] 27 1)]) (Pi []))) (Pi [([], Sm 27 [v 27, Ad (v 25) (N 1), v 6, E2 (B.cmp (BinOp.geq)) (Sb (v 25) (v 5)) (E2 (B.ar (BinOp.quo) (.i64)) (Sb (v 6) (v 5)) (N 8))])])) (Ps (Pz (Ps (Pi [([], Sc z9 [v 24, Ad (v 25) (N 1), v 6, v 11] 27 1)]) (Pi []))) (Pi [([], Sm 27 [v 27, v 5, v 25, E2 (B.cmp (BinOp.geq)) (Sb (v 6) (v 25)) (E2 (B.ar (BinOp.quo) (.i64)) (Sb (v 6) (v 5)) (N 8))])])))))))))))))))) (Pi [([], Sm 10 [v 27, v 28, v 29, v 11, v 30, v 26])]))) (Pi [([], Sm 4 [v 10, v 11, v 12, v 13, v 14, v 15])]))))))
def p49 : PI := pq1 48
theorem i49 : Qi 49 p49 := zab (S := s49) (no0 := 1) (h := h49) tabOk (by kernel_rfl) Go.Proofs.Tryd.func64 rfl (by kernel_rfl) (by kernel_rfl)
def h50 : Hint := h49
def p50 : PI := pq1 49
theorem i50 : Qi 50 p50 := zab (S := s50) (no0 := 1) (h := h50) tabOk (by kernel_rfl) Go.Proofs.Tryd.func64 rfl (by kernel_rfl) (by kernel_rfl)
def h51 : Hint := h49
def p51 : PI := pq1 50
theorem i51 : Qi 51 p51 := zab (S := s51) (no0 := 1) (h := h51) tabOk (by kernel_rfl) Go.Proofs.Tryd.func64 rfl (by kernel_rfl) (by kernel_rfl)
def h52 : Hint := h49
def p52 : PI := pq1 51
theorem i52 : Qi 52 p52 := zab (S := s52) (no0 := 1) (h := h52) tabOk (by kernel_rfl) Go.Proofs.Tryd.func64 rfl (by kernel_rfl) (by kernel_rfl)
def h53 : Hint := h49
def p53 : PI := pq1 52
theorem i53 : Qi 53 p53 := zab (S := s53) (no0 := 1) (h := h53) tabOk (by kernel_rfl) Go.Proofs.Tryd.func64 rfl (by kernel_rfl) (by kernel_rfl)
def h54 : Hint := h49
def p54 : PI := pq1 53
theorem i54 : Qi 54 p54 := zab (S := s54) (no0 := 1) (h := h54) tabOk (by kernel_rfl) Go.Proofs.Tryd.func64 rfl (by kernel_rfl) (by kernel_rfl)
def h55 : Hint := h49
def p55 : PI := pq1 54
theorem i55 : Qi 55 p55 := zab (S := s55) (no0 := 1) (h := h55) tabOk (by kernel_rfl) Go.Proofs.Tryd.func64 rfl (by kernel_rfl) (by kernel_rfl)
def h56 : Hint := h49
def p56 : PI := pq1 55
theorem i56 : Qi 56 p56 := zab (S := s56) (no0 := 1) (h := h56) tabOk (by kernel_rfl) Go.Proofs.Tryd.func64 rfl (by kernel_rfl) (by kernel_rfl)
def h57 : Hint := h49
def p57 : PI := pq1 56
theorem i57 : Qi 57 p57 := zab (S := s57) (no0 := 1) (h := h57) tabOk (by kernel_rfl) Go.Proofs.Tryd.func64 rfl (by kernel_rfl) (by kernel_rfl)
def h58 : Hint := Hz Hn
def p58 : PI := Ps (Pz (Pi [([], Sc 24 [E1 (U.conv (.u64)) e14] 1 1), ([], Sc 57 [v 0, N 0, Ln (v 0), v 1] 2 1)])) e284
theorem i58 : Qi 58 p58 := zab (S := s58) (no0 := 1) (h := h58) tabOk (by kernel_rfl) Go.Proofs.Tryd.func41 rfl (by kernel_rfl) (by kernel_rfl)
def h59 : Hint := Hz (Hs e5 (Hs (Hz (Hb (Jn [(0, [], Js 0 55)] [(0, [], Or true 55 (v 0))] 1 0 1) (Hl (Jn [(0, [], Js 0 55), (3, [], J 1)] [(0, [], Or true 55 (v 0))] 1 1 1) (Hs (Hz e8) (Hs (Hb (Jn [(0, [], Js 0 55), (3, [], J 1)] [(0, [], Or true 55 (v 0))] 2 0 1) (Hs e83 (Hc none (Hz (Hs (Hz (Hb (Jn [(0, [], Js 0 55), (3, [], J 5)] [(0, [], Or true 55 (v 4))] 4 2 1) (Hl (Jn [(0, [], Js 0 55), (3, [], J 5), (4, [], SV.s e149), (5, [], J 6)] [(0, [], Or true 55 (v 4))] 4 3 1) (Hs (Hz e8) (Hs (Hb (Jn [(0, [], Js 0 55), (3, [], J 8), (4, [], SV.s e149), (5, [], J 6)] [(0, [], Or true 55 (v 7))] 7 2 1) (Hs e83 (Hc (some (Jn [(0, [], Js 0 55), (3, [], J 10), (4, [], SV.s e149), (5, [], J 6)] [(0, [], Or true 55 (v 9))] 9 2 1)) (Hz Hn) Hn))) Hn))))) e64)) Hn))) Hn))))) (Hz Hn)))
def p59 : PI := Pz (Ps (Pz (Pc (Lt e14 (N 2)) e259 Pk)) (Ps (Pz (Pb 0 (Ps (Pi [([], Sm 1 [N 1])]) (Pl (Ps (Ps (Pz e38) (Ps (Pb 1 (Ps (Ps (Pi [([], Sk e45), ([], Ss 2 e95), ([], Sk (An (Le (N 0) e232) (Lt e232 e14))), ([], Ss 3 (Ix (v 0) e232))]) (Pc (An (Ee e89 (Ce 0 (v 3))) (Ee e114 (Ce 1 (v 3)))) (Ps (Pi [([], Sk (An e18 (An (Le (v 1) e14) (Le e14 e14))))]) (Ps (Pz (Pb 2 (Ps (Pi [([], Sm 4 [v 0, v 1, N 1])]) (Pl (Ps (Ps (Pz (Pc e268 Pk (Ps (Pi [([], Sm 4 [v 4, v 5])]) (Px 2)))) (Ps (Pb 3 (Ps (Ps (Pi [([], Sk (An e63 e268)), ([], Ss 7 e204), ([], Sk (An e122 (Lt e16 e55))), ([], Ss 8 (Ix (v 4) (E2 (B.plus) (v 1) e16)))]) (Pc (E1 (U.not) (An (Ee (Ce 0 (v 7)) e115) (Ee e244 e29))) (Ps (Ps (Pi [([], Sk (An e63 e268)), ([], Ss 9 e204), ([], Sk (An e153 (Lt (v 5) e48))), ([], Ss 10 (E3 (Tr.setI) (v 4) (v 5) e146))]) (Pi [])) (Pi [([], Sm 9 [v 10, Ad (v 5) (N 1)])])) (Ps Pk (Pi [([], Sm 9 [v 4, v 5])])))) (Pi [([], Sm 7 [v 9, v 10])]))) (Pi []))) e170))))) (Ps (Pi [([], Sk (An e153 (An (Le (v 5) e48) (Le e48 e48)))), ([], Ss 6 (E2 (B.cat) (E3 (Tr.ext) (v 4) (N 0) (v 5)) (E2 (B.cat) (E2 (B.rep) e273 (E2 (B.cons) (N 0) (E2 (B.cons) (N 0) Xn))) (E3 (Tr.ext) (v 4) (E2 (B.plus) (v 5) e273) e48))))]) (Ps (Pi [([], Sk (An (Le (N 0) (N 0)) (An e153 (Le (v 5) e183))))]) (Pr [v 6, v 5]))))) Pk)) e78)) (Pi []))) e56))))) e259))
theorem i59 : Qi 59 p59 := zab (S := s59) (no0 := 1) (h := h59) tabOk (by kernel_rfl) Go.Proofs.Tryd.func45 rfl (by kernel_rfl) (by kernel_rfl)
def h60 : Hint := Hz e64
def p60 : PI := Pz (Ps (Pi [([], Sc 58 [v 0] 1 1)]) (Ps (Pi [([], Sc 59 [v 1] 2 2)]) (Pr [v 2, v 3])))
theorem i60 : Qi 60 p60 := zab (S := s60) (no0 := 1) (h := h60) tabOk (by kernel_rfl) Go.Proofs.Tryd.func34 rfl (by kernel_rfl) (by kernel_rfl)
def h61 : Hint := Hz (Hz (Hs (Hz (Hb (Jn [(3, [], Js 8 55)] [(0, [], Or false 39 (v 0)), (8, [], Or true 55 (v 2))] 2 1 9) (Hl (Jn [(0, [], Js 0 39), (3, [], Js 8 55), (9, [], Js 0 39), (10, [], SV.s e2), (11, [], J 3)] [(0, [], Or false 39 (v 0)), (8, [], Or true 55 (v 2))] 2 2 9) (Hz (Hs e8 (Hs (Hb (Jn [(0, [], Js 0 39), (3, [], Js 14 55), (9, [], Js 0 39), (10, [], SV.s e2), (11, [], J 3)] [(0, [], Or false 39 (v 0)), (14, [], Or true 55 (v 4))] 4 1 15) (Hz (Hz (Hb (Jn [(0, [], Js 0 39), (3, [], Js 14 55), (9, [], Js 0 39), (10, [], SV.s e2), (11, [], J 3)] [(0, [], Or false 39 (v 0)), (14, [], Or true 55 (v 5))] 5 1 15) (Hl (Jn [(0, [], Js 0 39), (3, [], Js 14 55), (5, [], Jp 9 0), (9, [], Js 0 39), (10, [], SV.s e2), (11, [], J 3), (18, [], SV.s e138), (19, [], J 3), (20, [], J 6)] [(0, [], Or false 39 (v 0)), (14, [], Or true 55 (v 5)), (9, [], Ob true [Leaf.int (.i64) e134, Leaf.int (.i64) e133, Lz e207])] 5 2 15) (Hz (Hs e8 (Hs (Hb (Jn [(0, [], Js 0 39), (3, [], Js 18 55), (5, [], Jp 9 0), (9, [], Js 0 39), (10, [], SV.s e2), (11, [], J 3), (18, [], SV.s e138), (19, [], J 3), (20, [], J 6)] [(0, [], Or false 39 (v 0)), (18, [], Or true 55 (v 7)), (9, [], Ob true [Leaf.int (.i64) e134, Leaf.int (.i64) e133, Lz e207])] 7 1 19) (Hz (Hz (Hc (some (Jn [(0, [], Js 0 39), (3, [], Js 18 55), (5, [], Jp 9 0), (9, [], Js 0 39), (10, [], SV.s e2), (11, [], J 3), (18, [], SV.s e138), (19, [], J 3), (20, [], J 6)] [(0, [], Or false 39 (v 0)), (18, [], Or true 55 (v 12)), (9, [], Ob true [Leaf.int (.i64) e134, Leaf.int (.i64) e133, Lz e207])] 12 1 19)) Hn Hn)))) Hn)))))))) Hn)))))) (Hz Hn)))
def p61 : PI := Pz (Ps (Pi [([], Ss 1 Xn)]) (Ps (Pz (Pb 0 (Ps e234 (Pl (Ps (Pz (Ps e140 (Ps (Pb 1 (Ps (Ps e88 (Ps (Pi [([], Sk (An (Le (N 0) (N 0)) (An e236 (Le (v 3) e14))))]) (Pb 2 (Ps (Pi [([], Sm 5 [v 2, N 0])]) (Pl (Ps (Pz (Ps (Pc (Lt (v 6) (v 3)) Pk e250) (Ps (Pb 3 (Ps (Ps (Pi [([], Sk (An e63 (Lt (v 6) (v 3)))), ([], Ss 7 (Ix (v 0) (v 6)))]) (Ps (Pi [([], Ss 8 (E3 (Tr.ite) (E2 (B.cmp (BinOp.neq)) e244 e133) (E2 (B.scmp (BinOp.neq)) (Ce 2 (v 7)) (Exp.str [])) (Xf))), ([], Ss 9 (E3 (Tr.ite) (v 8) (E2 (B.scmp (BinOp.eql)) (Ce 2 (v 7)) e207) (Xf))), ([(v 9, true)], Ss 10 (E3 (Tr.ite) (Ee (Ce 0 (v 7)) (N 2)) (Xt) (Ee e134 (N 2)))), ([], Ss 11 (E3 (Tr.ite) (v 9) (v 10) (Xf)))]) (Pc (v 11) (Ps (Pi [([], Ss 12 (E2 (B.cons) (E2 (B.cons) e244 e197) Xn)), ([], Ss 13 (E2 (B.cat) (v 5) (v 12))), ([], Sk (Le (Ln (v 13)) (N 8796093022208)))]) (Pi [([], Sm 12 [v 13])])) (Ps Pk (Pi [([], Sm 12 [v 5])]))))) (Pi [([], Sm 7 [v 12])]))) (Pi [])))) (Pi [([], Sm 5 [v 7, Ad (v 6) (N 1)])]))))))) e277)) (Pi [])))) e192))))) (Ps (Pi [([], Sc 60 [v 2] 3 2)]) (Pr [v 3, v 4]))))
theorem i61 : Qi 61 p61 := zab (S := s61) (no0 := 1) (h := h61) tabOk (by kernel_rfl) Go.Proofs.Tryd.func20 rfl (by kernel_rfl) (by kernel_rfl)
def h62 : Hint := Hz (Hs (Hz (Hb (Jn [] [(0, [], Or false 3 (v 0))] 2 0 1) (Hl (Jn [(0, [], Js 0 3), (1, [], J 1), (7, [], SV.s e2), (8, [], J 2)] [(0, [], Or false 3 (v 0))] 2 1 1) (Hz (Hs e8 (Hs (Hb (Jn [(0, [], Js 0 3), (1, [], J 1), (7, [], SV.s e2), (8, [], J 2)] [(0, [], Or false 3 (v 0))] 3 0 1) (Hz e5)) Hn)))))) (Hz Hn))
def p62 : PI := Pz (Ps (Pz (Pb 0 (Ps e278 (Pl (Ps (Pz (Ps e196 (Ps (Pb 1 (Ps (Pz (Ps (Pi [([], Sk e116)]) (Pc (Ee (v 1) e241) (Pz e284) Pk))) e112)) (Pi [])))) e210))))) e87)
theorem i62 : Qi 62 p62 := zab (S := s62) (no0 := 1) (h := h62) tabOk (by kernel_rfl) Go.Proofs.Tryd.func36 rfl (by kernel_rfl) (by kernel_rfl)
def h63 : Hint := Hz (Hz Hn)
def p63 : PI := Pz (Ps (Pi [([], Sc 62 [v 0, v 1] 2 1)]) (Pr [E2 (B.cmp (BinOp.geq)) (v 2) (N 0)]))
theorem i63 : Qi 63 p63 := zab (S := s63) (no0 := 1) (h := h63) tabOk (by kernel_rfl) Go.Proofs.Tryd.func25 rfl (by kernel_rfl) (by kernel_rfl)
def h64 : Hint := Hz (Hz Hn)
def p64 : PI := Pz (Ps (Pi [([(Ee (v 1) (v 2), true)], Sc 63 [v 3, v 0] 4 1), ([], Ss 5 (E3 (Tr.ite) (Ee (v 1) (v 2)) (v 4) (Xf)))]) (Pr [v 5]))
theorem i64 : Qi 64 p64 := zab (S := s64) (no0 := 3) (h := h64) tabOk (by kernel_rfl) Go.Proofs.Tryd.func24 rfl (by kernel_rfl) (by kernel_rfl)
def h65 : Hint := Hz (Hs (Hz (Hb (Jn [] [(0, [], Or false 55 (v 0)), (1, [], Ob false [Li 1]), (2, [], Or false 3 (v 2)), (3, [], Ob false [Ow 2 3])] 3 0 4) (Hl (Jn [(0, [], Js 0 55), (1, [], SV.s e265), (7, [], SV.s e2), (8, [], J 3)] [(0, [], Or false 55 (v 0)), (1, [], Ob false [Li 1]), (2, [], Or false 3 (v 2)), (3, [], Ob false [Ow 2 3])] 3 1 4) (Hz (Hs e8 (Hs (Hb (Jn [(0, [], Js 0 55), (1, [], SV.s e265), (7, [], SV.s e2), (8, [], J 3)] [(0, [], Or false 55 (v 0)), (1, [], Ob false [Li 1]), (2, [], Or false 3 (v 2)), (3, [], Ob false [Ow 2 3])] 4 0 4) (Hz e5)) Hn)))))) (Hz Hn))
def p65 : PI := Pz (Ps (Pz (Pb 0 (Ps e129 (Pl (Ps (Pz (Ps e227 (Ps (Pb 1 (Ps (Pz (Ps (Pi [([], Sk e32), ([], Ss 4 e240), ([], Sc 64 [Ce 0 (v 4), Ce 1 (v 4), v 1, v 2] 5 1)]) (Pc (v 5) (Pz e139) Pk))) e46)) (Pi [])))) e121))))) e87)
theorem i65 : Qi 65 p65 := zab (S := s65) (no0 := 4) (h := h65) tabOk (by kernel_rfl) Go.Proofs.Tryd.func35 rfl (by kernel_rfl) (by kernel_rfl)
def h66 : Hint := Hz (Hz Hn)
def p66 : PI := Pz (Ps (Pi [([], Sc 65 [v 0, v 1, v 2] 3 1)]) (Pr [E2 (B.cmp (BinOp.geq)) (v 3) (N 0)]))
theorem i66 : Qi 66 p66 := zab (S := s66) (no0 := 4) (h := h66) tabOk (by kernel_rfl) Go.Proofs.Tryd.func23 rfl (by kernel_rfl) (by kernel_rfl)
def h67 : Hint := Hz (Hz Hn)
def p67 : PI := Pz (Ps (Pi [([], Sc 66 [v 1, v 0, v 2] 3 1)]) (Pr [E1 (U.not) (v 3)]))
theorem i67 : Qi 67 p67 := zab (S := s67) (no0 := 4) (h := h67) tabOk (by kernel_rfl) Go.Proofs.Tryd.func22 rfl (by kernel_rfl) (by kernel_rfl)
def h68 : Hint := Hz (Hs (Hz (Hb (Jn [] [(0, [], Or false 3 (v 0)), (1, [], Or false 55 (v 1)), (2, [], Ob false [Ow 1 55]), (3, [], Or false 3 (v 2)), (4, [], Ob false [Ow 3 3])] 3 0 5) (Hl (Jn [(0, [], Js 0 3), (1, [], SV.s e266), (7, [], SV.s e2), (8, [], J 3)] [(0, [], Or false 3 (v 0)), (1, [], Or false 55 (v 1)), (2, [], Ob false [Ow 1 55]), (3, [], Or false 3 (v 2)), (4, [], Ob false [Ow 3 3])] 3 1 5) (Hz (Hs e8 (Hs (Hb (Jn [(0, [], Js 0 3), (1, [], SV.s e266), (7, [], SV.s e2), (8, [], J 3)] [(0, [], Or false 3 (v 0)), (1, [], Or false 55 (v 1)), (2, [], Ob false [Ow 1 55]), (3, [], Or false 3 (v 2)), (4, [], Ob false [Ow 3 3])] 4 0 5) (Hz e5)) Hn)))))) (Hz Hn))
def p68 : PI := Pz (Ps (Pz (Pb 0 (Ps e129 (Pl (Ps (Pz (Ps e227 (Ps (Pb 1 (Ps (Pz (Ps (Pi [([], Sk e32), ([], Sc 67 [Ix (v 0) (v 3), v 1, v 2] 4 1)]) (Pc (v 4) (Pz e139) Pk))) e46)) (Pi [])))) e121))))) e87)
theorem i68 : Qi 68 p68 := zab (S := s68) (no0 := 5) (h := h68) tabOk (by kernel_rfl) Go.Proofs.Tryd.func21 rfl (by kernel_rfl) (by kernel_rfl)
def p69 : PI := Ps (Pi [([], Sk e18), ([], Sk (Le (v 1) (v 2))), ([], Sk (Le (v 2) e14)), ([], Sk (Le e14 (N 140737488355328)))]) (Pr [E2 (B.cat) (E3 (Tr.ext) (v 0) (N 0) (v 1)) (E3 (Tr.ext) (v 0) (v 2) e14)])
theorem i69 : Qi 69 p69 := zgj (ρ := delRen 0 3 4 24) tabOk (by kernel_rfl) (E := 3) (by kernel_rfl) (nm := "slices.Delete[[]int,int]") (ta := #[24, 3]) (pa := #[24, 3, 3]) (Go.Proofs.Tryd.func26.trans (by kernel_rfl)) (by kernel_rfl) rfl
def h70 : Hint := Hz (Hs e5 (Hz (Hz (Hs (Hb (Jn [(6, [], Js 10 3)] [(0, [], Or false 39 (v 0)), (10, [], Or true 3 (v 6))] 6 1 11) (Hl (Jn [(4, [], Jp 3 0), (5, [], Jp 4 0), (6, [], Js 10 3)] [(0, [], Or false 39 (v 0)), (9, [], Or true 3 (v 6)), (3, [], Ob true [Ow 9 3]), (2, [], Or true 55 (v 3)), (4, [], Ob true [Leaf.sl 2 55 (N 0) (v 4)]), (10, [], Or true 3 (v 7))] 6 2 11) (Hs (Hz e8) (Hb (Jn [(4, [], Jp 3 0), (5, [], Jp 4 0), (6, [], Js 12 3)] [(0, [], Or false 39 (v 0)), (13, [], Or true 3 (v 8)), (3, [], Ob true [Ow 13 3]), (2, [], Or true 55 (v 3)), (4, [], Ob true [Leaf.sl 2 55 (N 0) (v 4)]), (12, [], Or true 3 (v 9))] 8 2 14) (Hz e164))))) (Hz Hn)))))
def p70 : PI := Pz (Ps (Ps (Pi [([], Sc 11 [v 0] 1 1)]) (Pc (E1 (U.not) (v 1)) (Pz (Pr [Xn, Xf])) Pk)) (Ps (Pi [([], Sc 30 [v 0] 2 1), ([], Sc 61 [v 0] 3 2)]) (Ps (Pi [([], Ss 5 Xn)]) (Ps (Pb 0 (Ps (Pi [([], Sm 6 [v 2, v 5])]) (Pl (Ps (Ps (Pz (Pc (E2 (B.cmp (BinOp.gtr)) e183 (N 0)) Pk (Ps (Pi [([], Sm 6 [v 7])]) (Px 0)))) (Pb 1 (Ps (Ps (Pi [([], Sc 68 [v 6, E3 (Tr.ext) (v 3) (N 0) (v 4), v 6] 8 1)]) (Ps (Pz (Pc (Lt (v 8) (N 0)) (Pz (Pr [Xn, Xf])) Pk)) (Ps (Pi [([], Sk (An e235 (Lt (v 8) e183))), ([], Ss 9 (E2 (B.cons) (Ix (v 6) (v 8)) Xn)), ([], Ss 10 (E2 (B.cat) (v 7) (v 9))), ([], Sk (Le e263 e217))]) (Pi [([], Sc 69 [v 6, v 8, Ad (v 8) (N 1)] 11 1)])))) (Pi [([], Sm 8 [v 11, v 10])])))) (Pi [([], Sm 6 [v 8, v 9])]))))) (Pz (Pr [v 6, Xt]))))))
theorem i70 : Qi 70 p70 := zab (S := s70) (no0 := 1) (h := h70) tabOk (by kernel_rfl) Go.Proofs.Tryd.func7 rfl (by kernel_rfl) (by kernel_rfl)
def h71 : Hint := Hz (Hs e5 (Hz (Hz (Hz (Hs e5 (Hs e5 e64))))))
def p71 : PI := Pz (Ps (Pz (Pc (E2 (B.cmp (BinOp.gtr)) e14 (N 1048576)) e209 Pk)) (Ps (Pi [([], Sc 7 [v 0] 1 2)]) (Ps (Pi [([], Sc 16 [v 1, v 2] 3 2)]) (Ps (Pi [([], Sc 21 [v 1, v 2] 5 2)]) (Ps (Ps (Pi [([], Ss 7 (E3 (Tr.ite) (E2 (B.bcmp (BinOp.neq)) (v 4) (v 6)) (Xt) (E2 (B.bcmp (BinOp.neq)) (v 3) (v 5))))]) (Pc (v 7) e120 Pk)) (Ps (Pz (Pc e219 e209 Pk)) (Ps (Pi [([], Sc 70 [v 1] 8 2)]) (Pz (Pr [v 9])))))))))
theorem i71 : Qi 71 p71 := zab (S := s71) (no0 := 1) (h := h71) tabOk (by kernel_rfl) Go.Proofs.Tryd.func3 rfl (by kernel_rfl) (by kernel_rfl)
def ps : List PI := [p0, p1, p2, p3, p4, p5, p6, p7, p8, p9, p10, p11, p12, p13, p14, p15, p16, p17, p18, p19, p20, p21, p22, p23, p24, p25, p26, p27, p28, p29, p30, p31, p32, p33, p34, p35, p36, p37, p38, p39, p40, p41, p42, p43, p44, p45, p46, p47, p48, p49, p50, p51, p52, p53, p54, p55, p56, p57, p58, p59, p60, p61, p62, p63, p64, p65, p66, p67, p68, p69, p70, p71]
theorem all : AllInst Go.Proofs.Tryd.prog tab sigs ps 0 := ⟨i0, i1, i2, i3, i4, i5, i6, i7, i8, i9, i10, i11, i12, i13, i14, i15, i16, i17, i18, i19, i20, i21, i22, i23, i24, i25, i26, i27, i28, i29, i30, i31, i32, i33, i34, i35, i36, i37, i38, i39, i40, i41, i42, i43, i44, i45, i46, i47, i48, i49, i50, i51, i52, i53, i54, i55, i56, i57, i58, i59, i60, i61, i62, i63, i64, i65, i66, i67, i68, i69, i70, i71, trivial⟩
end Gp.YtddabbooahooeaaDoor
