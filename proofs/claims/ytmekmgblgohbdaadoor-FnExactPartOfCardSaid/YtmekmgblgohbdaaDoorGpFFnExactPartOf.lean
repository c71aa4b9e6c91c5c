/- Gp: the seat's functions as pure programs; each checked by the kernel. -/
import Derived.Test.YtmekmgblgohbdaaDoorGpCtl5
import Derived.Test.YtmekmgblgohbdaaDoorGpTrim
import Derived.Test.YtmekmgblgohbdaaDoorTl
import Derived.Test.YtmekmgblgohbdaaDoorGpT
set_option maxRecDepth 100000
namespace Gp.YtmekmgblgohbdaaDoor
open Go Gp
abbrev v := @Exp.var
abbrev N := @Exp.int
abbrev E2 := @Exp.bin
abbrev E1 := @Exp.un
abbrev E3 := @Exp.tri
abbrev Hs := @Hint.seq
abbrev Hn := @Hint.nil
abbrev Hc := @Hint.cond
abbrev Hr := @Hint.reg
abbrev Hb := @Hint.block
abbrev Hl := @Hint.loop
abbrev Ps := @PI.seq
abbrev Pi := @PI.sis
abbrev Pk := @PI.skip
abbrev Pc := @PI.cond
abbrev Pb := @PI.block
abbrev Pl := @PI.loop
abbrev Px := @PI.exit
abbrev Pr := @PI.ret
abbrev Sc := @SI.call
abbrev Ss := @SI.set
abbrev Sm := @SI.mov
abbrev Sk := @SI.chk
abbrev Or := @Obj.row
abbrev Ob := @Obj.box
abbrev Ow := @Leaf.slw
abbrev Lb := @Leaf.bool
abbrev Lp := @Leaf.pb
abbrev I (n : Nat) : S1 := .one (.int .i64 (.var n))
abbrev J (n : Nat) : SV := .s (I n)
abbrev Li (n : Nat) : Leaf := .int .i64 (.var n)
abbrev Lu (n : Nat) : Leaf := .int .u64 (.var n)
abbrev Ad (a b : Exp) : Exp := .bin (.ar .add .i64) a b
abbrev Sb (a b : Exp) : Exp := .bin (.ar .sub .i64) a b
abbrev An (a b : Exp) : Exp := .bin .and a b
abbrev Le (a b : Exp) : Exp := .bin (.cmp .leq) a b
abbrev Lt (a b : Exp) : Exp := .bin (.cmp .lss) a b
abbrev Ee (a b : Exp) : Exp := .bin (.cmp .eql) a b
abbrev Ix (a b : Exp) : Exp := .bin .idx a b
abbrev Ln (a : Exp) : Exp := .un .len a
abbrev Ce (j : Nat) (a : Exp) : Exp := .un (.cell j) a
abbrev Jp (o j : Nat) : SV := .s (.one (.pb o j))
abbrev Js (o t : Nat) : SV := .s (.one (.slw o t))
abbrev Jn (a : List (Nat × (Grd × SV))) (b : List (Nat × (Grd × Obj))) (x y z : Nat) : Join := ⟨⟨a, b⟩, x, y, z, []⟩
def s0 : Sig := { f := 38, ins := [I 0, I 1, I 2], obs := [], nin := 3, outs := [S1.one (Lb (v 0))], oobs := [], nout := 1 }
def s1 : Sig := { f := 37, ins := [S1.one (Leaf.str (v 0))], obs := [], nin := 1, outs := [S1.one (Lb (v 0))], oobs := [], nout := 1 }
def s2 : Sig := { f := 8, ins := [S1.one (Leaf.str (v 0)), I 1], obs := [], nin := 2, outs := [I 0, S1.one (Lb (v 1))], oobs := [], nout := 2 }
def s3 : Sig := { f := 79, ins := [S1.one (Leaf.str (v 0)), S1.one (Leaf.str (v 1))], obs := [], nin := 2, outs := [S1.one (Leaf.str (v 0))], oobs := [], nout := 1 }
def s4 : Sig := { f := 39, ins := [S1.one (Leaf.str (v 0))], obs := [], nin := 1, outs := [S1.one (Lb (v 0))], oobs := [], nout := 1 }
def s5 : Sig := { f := 40, ins := [I 0, I 1, I 2], obs := [], nin := 3, outs := [S1.one (Lb (v 0))], oobs := [], nout := 1 }
def s6 : Sig := { f := 9, ins := [S1.one (Leaf.str (v 0)), I 1], obs := [], nin := 2, outs := [I 0, S1.one (Lb (v 1))], oobs := [], nout := 2 }
def s7 : Sig := { f := 3, ins := [S1.one (Leaf.str (v 0)), I 1], obs := [], nin := 2, outs := [S1.one (Lb (v 0))], oobs := [], nout := 1 }
def sigs : List Sig := [s0, s1, s2, s3, s4, s5, s6, s7]
/- loop.example/g00218/spec.l1In -/
def h0 : Hint := Hs Hn (Hs Hn Hn)
def p0 : PI := Ps (Pi []) (Ps (Pi [([], Ss 3 (E3 (Tr.ite) (E2 (B.cmp (BinOp.geq)) (v 0) (v 1)) (Le (v 0) (v 2)) (Exp.bool false)))]) (Pr [v 3]))
theorem i0 : Inst Go.Proofs.Tryd.prog tab sigs 0 p0 := inst_of (S := s0) (no0 := 0) (h := h0) tabOk (by kernel_rfl) Go.Proofs.Tryd.func38 rfl (by kernel_rfl) (by kernel_rfl)
/- loop.example/g00218/spec.l1Key -/
def h1 : Hint := Hs Hn (Hs (Hs Hn (Hb (Jn [(0, [], SV.s (S1.one (Leaf.str (v 0))))] [] 1 0 0) (Hl (Jn [(0, [], SV.s (S1.one (Leaf.str (v 0)))), (3, [], J 1)] [] 1 1 0) (Hs (Hs Hn (Hc none Hn Hn)) (Hs (Hb (Jn [(0, [], SV.s (S1.one (Leaf.str (v 0)))), (3, [], J 1)] [] 2 0 0) (Hs Hn (Hs Hn (Hc none (Hs Hn Hn) Hn)))) Hn))))) (Hs Hn Hn))
def p1 : PI := Ps (Pi []) (Ps (Ps (Pi []) (Pb 0 (Ps (Pi [([], Sm 1 [N 0])]) (Pl (Ps (Ps (Ps (Pi []) (Pc (Lt (v 1) (E1 (U.slen) (v 0))) Pk (Ps (Pi [([], Sm 1 [])]) (Px 0)))) (Ps (Pb 1 (Ps (Ps (Pi [([], Sk (An (Le (N 0) (v 1)) (Lt (v 1) (E1 (U.slen) (v 0)))))]) (Ps (Pi [([], Ss 2 (E3 (Tr.ite) (E2 (B.cmp (BinOp.geq)) (E2 (B.sidx) (v 0) (v 1)) (N 97)) (Le (E2 (B.sidx) (v 0) (v 1)) (N 122)) (Exp.bool false))), ([(v 2, false)], Ss 3 (E3 (Tr.ite) (E2 (B.cmp (BinOp.geq)) (E2 (B.sidx) (v 0) (v 1)) (N 48)) (Le (E2 (B.sidx) (v 0) (v 1)) (N 57)) (Exp.bool false))), ([], Ss 4 (E3 (Tr.ite) (v 2) (Exp.bool true) (v 3)))]) (Pc (E1 (U.not) (v 4)) (Ps (Pi []) (Pr [Exp.bool false])) Pk))) (Pi [([], Sm 2 [])]))) (Pi []))) (Pi [([], Sm 1 [Ad (v 1) (N 1)])])))))) (Ps (Pi [([], Sc 0 [E1 (U.slen) (v 0), N 1, N 8] 1 1)]) (Pr [v 1])))
theorem i1 : Inst Go.Proofs.Tryd.prog tab sigs 1 p1 := inst_of (S := s1) (no0 := 0) (h := h1) tabOk (by kernel_rfl) Go.Proofs.Tryd.func37 rfl (by kernel_rfl) (by kernel_rfl)
/- loop.example/g00218/spec.PartOf -/
def h2 : Hint := Hs Hn (Hs (Hs Hn (Hc none (Hs Hn Hn) Hn)) (Hs Hn (Hs (Hs Hn (Hb (Jn [(1, [], J 1), (6, [], SV.s (S1.one (Leaf.int (.u32) (v 5))))] [] 5 1 0) (Hl (Jn [(0, [], SV.s (S1.one (Leaf.str (v 0)))), (1, [], J 1), (6, [], SV.s (S1.one (Leaf.int (.u32) (v 5)))), (7, [], J 6)] [] 5 2 0) (Hs (Hs Hn (Hc none Hn Hn)) (Hs (Hb (Jn [(0, [], SV.s (S1.one (Leaf.str (v 0)))), (1, [], J 1), (6, [], SV.s (S1.one (Leaf.int (.u32) (E2 (B.ar (BinOp.add) (.u32)) (E2 (B.ar (BinOp.mul) (.u32)) (N 33) (v 5)) (E1 (U.conv (.u32)) (E2 (B.sidx) (v 0) (v 6))))))), (7, [], J 6)] [] 7 0 0) Hn) Hn))))) (Hs Hn Hn))))
def p2 : PI := Ps (Pi []) (Ps (Ps (Pi [([], Sc 1 [v 0] 2 1), ([(E1 (U.not) (v 2), false)], Sc 0 [v 1, N 1, N 8] 3 1), ([], Ss 4 (E3 (Tr.ite) (E1 (U.not) (v 2)) (Exp.bool true) (E1 (U.not) (v 3))))]) (Pc (v 4) (Ps (Pi []) (Pr [N 0, Exp.bool false])) Pk)) (Ps (Pi []) (Ps (Ps (Pi []) (Pb 0 (Ps (Pi [([], Sm 5 [N 5381, N 0])]) (Pl (Ps (Ps (Ps (Pi []) (Pc (Lt (v 6) (E1 (U.slen) (v 0))) Pk (Ps (Pi [([], Sm 5 [v 5])]) (Px 0)))) (Ps (Pb 1 (Ps (Pi [([], Sk (An (Le (N 0) (v 6)) (Lt (v 6) (E1 (U.slen) (v 0)))))]) (Pi [([], Sm 7 [])]))) (Pi []))) (Pi [([], Sm 5 [E2 (B.ar (BinOp.add) (.u32)) (E2 (B.ar (BinOp.mul) (.u32)) (N 33) (v 5)) (E1 (U.conv (.u32)) (E2 (B.sidx) (v 0) (v 6))), Ad (v 6) (N 1)])])))))) (Ps (Pi [([], Sk (E2 (B.cmp (BinOp.neq)) (E1 (U.conv (.u32)) (v 1)) (N 0)))]) (Pr [E1 (U.conv (.i64)) (E2 (B.ar (BinOp.rem) (.u32)) (v 5) (E1 (U.conv (.u32)) (v 1))), Exp.bool true])))))
theorem i2 : Inst Go.Proofs.Tryd.prog tab sigs 2 p2 := inst_of (S := s2) (no0 := 0) (h := h2) tabOk (by kernel_rfl) Go.Proofs.Tryd.func8 rfl (by kernel_rfl) (by kernel_rfl)
/- strings.Trim -/
def p3 : PI := Ps (Pi [([], Sk (E1 (U.ascii) (v 1))), ([], Sk (Le (E1 (U.slen) (v 0)) (N 1000)))]) (Pr [E2 (B.trim) (v 0) (v 1)])
theorem i3 : Inst Go.Proofs.Tryd.prog tab sigs 3 p3 := trim_inst Go.Proofs.Tryd.lays160 (by kernel_rfl) (by kernel_rfl) (by kernel_rfl) rfl
/- loop.example/g00218/impl.isKey -/
def h4 : Hint := Hs Hn (Hs Hn Hn)
def p4 : PI := Ps (Pi []) (Ps (Pi [([], Ss 1 (E3 (Tr.ite) (E2 (B.cmp (BinOp.geq)) (E1 (U.slen) (v 0)) (N 1)) (Le (E1 (U.slen) (v 0)) (N 8)) (Exp.bool false))), ([(v 1, true)], Sc 3 [v 0, Exp.str [97, 98, 99, 100, 101, 102, 103, 104, 105, 106, 107, 108, 109, 110, 111, 112, 113, 114, 115, 116, 117, 118, 119, 120, 121, 122, 48, 49, 50, 51, 52, 53, 54, 55, 56, 57]] 2 1), ([], Ss 3 (E3 (Tr.ite) (v 1) (E2 (B.scmp (BinOp.eql)) (v 2) (Exp.str [])) (Exp.bool false)))]) (Pr [v 3]))
theorem i4 : Inst Go.Proofs.Tryd.prog tab sigs 4 p4 := inst_of (S := s4) (no0 := 0) (h := h4) tabOk (by kernel_rfl) Go.Proofs.Tryd.func39 rfl (by kernel_rfl) (by kernel_rfl)
/- loop.example/g00218/impl.in -/
def h5 : Hint := Hs Hn (Hs Hn Hn)
def p5 : PI := Ps (Pi []) (Ps (Pi [([], Ss 3 (E3 (Tr.ite) (E2 (B.cmp (BinOp.geq)) (v 0) (v 1)) (Le (v 0) (v 2)) (Exp.bool false)))]) (Pr [v 3]))
theorem i5 : Inst Go.Proofs.Tryd.prog tab sigs 5 p5 := inst_of (S := s5) (no0 := 0) (h := h5) tabOk (by kernel_rfl) Go.Proofs.Tryd.func40 rfl (by kernel_rfl) (by kernel_rfl)
/- loop.example/g00218/impl.PartOf -/
def h6 : Hint := Hs Hn (Hs (Hs Hn (Hc none (Hs Hn Hn) Hn)) (Hs Hn (Hs (Hs Hn (Hb (Jn [(1, [], J 1), (6, [], SV.s (S1.one (Leaf.int (.u32) (v 5))))] [] 5 1 0) (Hl (Jn [(0, [], SV.s (S1.one (Leaf.str (v 0)))), (1, [], J 1), (6, [], SV.s (S1.one (Leaf.int (.u32) (v 5)))), (17, [], SV.s (S1.one (Leaf.int (.i64) (E1 (U.slen) (v 0))))), (18, [], J 6)] [] 5 2 0) (Hs Hn (Hs (Hc none Hn Hn) (Hs (Hb (Jn [(0, [], SV.s (S1.one (Leaf.str (v 0)))), (1, [], J 1), (6, [], SV.s (S1.one (Leaf.int (.u32) (E2 (B.ar (BinOp.add) (.u32)) (E2 (B.ar (BinOp.mul) (.u32)) (N 33) (v 5)) (E1 (U.conv (.u32)) (E2 (B.sidx) (v 0) (v 6))))))), (17, [], SV.s (S1.one (Leaf.int (.i64) (E1 (U.slen) (v 0))))), (18, [], J 6)] [] 7 0 0) (Hs Hn Hn)) Hn)))))) (Hs Hn Hn))))
def p6 : PI := Ps (Pi []) (Ps (Ps (Pi [([], Sc 4 [v 0] 2 1), ([(E1 (U.not) (v 2), false)], Sc 5 [v 1, N 1, N 8] 3 1), ([], Ss 4 (E3 (Tr.ite) (E1 (U.not) (v 2)) (Exp.bool true) (E1 (U.not) (v 3))))]) (Pc (v 4) (Ps (Pi []) (Pr [N 0, Exp.bool false])) Pk)) (Ps (Pi []) (Ps (Ps (Pi []) (Pb 0 (Ps (Pi [([], Sm 5 [N 5381, N 0])]) (Pl (Ps (Ps (Pi []) (Ps (Pc (Lt (v 6) (E1 (U.slen) (v 0))) Pk (Ps (Pi [([], Sm 5 [v 5])]) (Px 0))) (Ps (Pb 1 (Ps (Ps (Pi []) (Pi [([], Sk (An (Le (N 0) (v 6)) (Lt (v 6) (E1 (U.slen) (v 0)))))])) (Pi [([], Sm 7 [])]))) (Pi [])))) (Pi [([], Sm 5 [E2 (B.ar (BinOp.add) (.u32)) (E2 (B.ar (BinOp.mul) (.u32)) (N 33) (v 5)) (E1 (U.conv (.u32)) (E2 (B.sidx) (v 0) (v 6))), Ad (v 6) (N 1)])])))))) (Ps (Pi [([], Sk (E2 (B.cmp (BinOp.neq)) (v 1) (N 0)))]) (Pr [E2 (B.ar (BinOp.rem) (.i64)) (E1 (U.conv (.i64)) (v 5)) (v 1), Exp.bool true])))))
theorem i6 : Inst Go.Proofs.Tryd.prog tab sigs 6 p6 := inst_of (S := s6) (no0 := 0) (h := h6) tabOk (by kernel_rfl) Go.Proofs.Tryd.func9 rfl (by kernel_rfl) (by kernel_rfl)
/- loop.example/g00218/laws.FnExactPartOf -/
def h7 : Hint := Hs Hn (Hs (Hs Hn (Hc none (Hs Hn Hn) Hn)) (Hs Hn (Hs Hn (Hs (Hs Hn (Hc none (Hs Hn Hn) Hn)) (Hs Hn Hn)))))
def p7 : PI := Ps (Pi []) (Ps (Ps (Pi []) (Pc (E2 (B.cmp (BinOp.gtr)) (E1 (U.slen) (v 0)) (N 1048576)) (Ps (Pi []) (Pr [Exp.bool true])) Pk)) (Ps (Pi [([], Sc 2 [v 0, v 1] 2 2)]) (Ps (Pi [([], Sc 6 [v 0, v 1] 4 2)]) (Ps (Ps (Pi [([], Ss 6 (E3 (Tr.ite) (E2 (B.cmp (BinOp.neq)) (v 4) (v 2)) (Exp.bool true) (E2 (B.bcmp (BinOp.neq)) (v 5) (v 3))))]) (Pc (v 6) (Ps (Pi []) (Pr [Exp.bool false])) Pk)) (Ps (Pi []) (Pr [Exp.bool true]))))))
theorem i7 : Inst Go.Proofs.Tryd.prog tab sigs 7 p7 := inst_of (S := s7) (no0 := 0) (h := h7) tabOk (by kernel_rfl) Go.Proofs.Tryd.func3 rfl (by kernel_rfl) (by kernel_rfl)
def ps : List PI := [p0, p1, p2, p3, p4, p5, p6, p7]
theorem all : AllInst Go.Proofs.Tryd.prog tab sigs ps 0 := ⟨i0, i1, i2, i3, i4, i5, i6, i7, trivial⟩
end Gp.YtmekmgblgohbdaaDoor
