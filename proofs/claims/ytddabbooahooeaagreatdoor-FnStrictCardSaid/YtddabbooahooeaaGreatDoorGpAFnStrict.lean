/- Gp: the seat's typed functions; each is the reading of its pure program (checked by the kernel). -/
import Derived.Test.YtddabbooahooeaaGreatDoorGpFFnStrict
import Derived.Test.YtddabbooahooeaaGreatDoorGpSh4
import Derived.Test.YtddabbooahooeaaGreatDoorShFnStrict
set_option linter.unusedVariables false
set_option linter.unusedSimpArgs false
set_option maxRecDepth 100000
namespace Gp.YtddabbooahooeaaGreatDoor
open Go Gp
abbrev As := @Ann.seq
abbrev Ai := @Ann.sis
abbrev Aq := @Ann.nil
abbrev Ac := @Ann.cond
abbrev Ab := @Ann.block
abbrev Al := @Ann.loop
abbrev i := Ty.int
abbrev b := Ty.bool
abbrev L := @Ty.list
abbrev P := @Ty.pair
abbrev S := Ty.str
abbrev Az (a : Ann) : Ann := .seq (.sis []) a
abbrev o1 := Ac none true (Az Aq) Aq
abbrev o2 := P i (P i S)
abbrev o3 := Ai [L (P i i)]
abbrev o4 := Ai [L (P i i), i]
abbrev o5 := Ai [P i i, P i i, L (P i i), L (P i i)]
abbrev o6 := Ai [L (P i i), i, i]
abbrev o29 := Ai [P i i, P i i, b]
abbrev o50 := Ac none true Aq (As (Ai [i]) Aq)
abbrev o7 := As o29 o50
abbrev o8 := Ac none true Aq (Az Aq)
abbrev o9 := Ai [P i (P i S)]
abbrev o10 := Az (Ai [])
abbrev o17 := Ai [L i]
abbrev o59 := As o17 Aq
abbrev o11 := Ac none true Aq o59
abbrev o12 := Ai [i, i]
abbrev o13 := Ac none true Aq (As o3 Aq)
abbrev o42 := As (Az (Az o1)) (Ai [])
abbrev o14 := As (Az (As o8 (As (Ab (some (3, [])) true o42) (Ai [])))) (Ai [i])
abbrev o15 := Ai [L o2]
abbrev o16 := Ai [b, b]
abbrev o18 := Ai [L i, L i]
abbrev o19 := Ai [i, i, L o2, i]
abbrev o20 := Ai [L (P i i), i, i, i, b, b]
abbrev o21 := Ai [P i i, P i i]
abbrev o43 := Ai [i, i, L o2]
abbrev o22 := Ac none true Aq (As o43 Aq)
abbrev o23 := As (Ai [b]) o1
abbrev o24 := Ai [b, b, b]
abbrev o25 := As (Az (Ab (some (2, [])) true (As (Ai [i]) (Al 2 [i] [(0, 2)] [[], [b]] o14)))) (Az Aq)
abbrev o37 := Ai [L o2, L o2]
abbrev o56 := As o37 o15
abbrev o60 := As Aq o15
abbrev o26 := As (Ai [i, i, b]) (Ac (some (30, [L o2])) false o56 o60)
abbrev o27 := Ac none true Aq (As o15 Aq)
abbrev o28 := Ai [L o2, i]
abbrev o30 := Ai [L i, i]
abbrev o31 := Az (Az Aq)
abbrev o58 := As o10 o12
abbrev o55 := As Aq o12
abbrev o32 := Az (Ac (some (3, [i, i])) false o58 o55)
abbrev o33 := Az (Ac (some (1, [i, i])) false o58 o55)
abbrev o34 := As Aq o3
abbrev o35 := As Aq (Ai [i])
abbrev o36 := As (Ai [b]) Aq
abbrev o38 := As (Az o1) (Az Aq)
abbrev o53 := Ac none true (As o3 Aq) Aq
abbrev o39 := As (As (As o21 o53) o5) o3
abbrev o40 := Ai [L (P i i), L (P i i)]
abbrev o41 := As (Az (Ac none true (As o4 Aq) Aq)) (As o5 o10)
abbrev o44 := Ai [b, b, b, i]
abbrev o45 := Az (Ai [i])
abbrev o46 := As (Az o10) (Ai [L (P i i), i, i, b])
abbrev o47 := Ai [L b, L b]
abbrev o48 := As o16 (Ac none true (As o24 Aq) Aq)
abbrev o49 := Ac none true Aq Aq
abbrev o51 := As (As (Ai [b]) (Ai [b])) o16
abbrev o52 := Ac none true Aq (As o24 Aq)
abbrev o54 := As o16 Aq
abbrev o57 := As o18 o17
abbrev o61 := Ai [i, i, L i, i]
def a0 : Ann := Az (Az (As (Az (Ac (some (3, [i])) false o45 o35)) (Az (Az o38))))
noncomputable def f0 : Fn := ⟨[L i, i, i], [i, i, i], fun a => Sh.spec_l1Cur_next a.1 a.2.1 a.2.2⟩
def a1 : Ann := Az (As (Az o1) (Az (As (Az (Ac (some (7, [i, i, i])) false (Az (Ai [i, i, i])) (As Aq (Ai [i, i, i])))) (Az Aq))))
noncomputable def f1 : Fn := ⟨[L i, i, i, i], [i, i, i], fun a => Sh.spec_l1Cur_pick a.1 a.2.1 a.2.2.1 a.2.2.2⟩
def a2 : Ann := Az (Az Aq)
noncomputable def f2 : Fn := ⟨[L i, i, i, i], [i, i, b], fun a => Sh.spec_l1Cur_one a.1 a.2.1 a.2.2.1 a.2.2.2⟩
def a3 : Ann := Az (Az Aq)
noncomputable def f3 : Fn := ⟨[L i, i, i, L S], [i, i, S], fun a => Sh.spec_l1Cur_of a.1 a.2.1 a.2.2.1 a.2.2.2⟩
def a4 : Ann := Az (As (Az (Ac none true (As (Ai [L S]) Aq) Aq)) (As (Ai [L S]) Aq))
noncomputable def f4 : Fn := ⟨[L i, i, i], [i, i, S], fun a => Sh.spec_l1Cur_key a.1 a.2.1 a.2.2⟩
def a5 : Ann := Az (As (Az (Ab (some (2, [])) true (As (Ai [i]) (Al 2 [i] [(0, 2)] [[], [i]] (As (Az (As o8 (As (Ab (some (3, [])) true (As (As o9 o23) (Ai []))) (Ai [])))) (Ai [i])))))) (Az Aq))
noncomputable def f5 : Fn := ⟨[L (P i (P i S)), i], [i], fun a => Sh.spec_l3Commit a.1 a.2⟩
def a6 : Ann := Az (Az (Az (Az (As (Az (Ac (some (12, [i])) false o45 o35)) (As (Ab (some (13, [i, i, L o2])) false (As o19 (Al 13 [i, i, L o2, i] [(0, 13)] [[i, i, L o2]] (As (As (Az o22) (As (Ab (some (17, [i, i, L o2])) false (As (Az (As (Az (Ac (some (29, [S])) false (Az (Ai [S])) (As Aq (Ai [S])))) o37)) o43)) (Ai []))) o19)))) (Az (As (Az (Ab (some (16, [i, i, L o2])) false (As o19 (Al 16 [i, i, L o2, i] [(2, 16)] [[i, i, L o2]] (As (Az (As o22 (As (Ab (some (20, [i, i, L o2])) false (As (As o9 (As o37 (Az (As (Az (Ab (some (23, [b])) false (As (Ai [b, i]) (Al 23 [b, i] [(4, 23)] [[b]] (As (Az (As (Ac none true Aq o36) (As (Ab (some (25, [b])) false (As (As o9 (Ai [b])) (Ai [b]))) (Ai [])))) (Ai [b, i])))))) o26)))) o43)) (Ai [])))) o19))))) (As (Az (Ab (some (19, [i, i, L o2])) false (As o19 (Al 19 [i, i, L o2, i] [(6, 19)] [[i, i, L o2]] (As (As (Az o22) (As (Ab (some (23, [i, i, L o2])) false (As o26 o43)) (Ai []))) o19))))) (Az Aq)))))))))
noncomputable def f6 : Fn := ⟨[L i, i, i], [i, i, L (P i (P i S))], fun a => Sh.spec_l1Cur_ops a.1 a.2.1 a.2.2⟩
def a7 : Ann := Az o31
noncomputable def f7 : Fn := ⟨[L i], [L (P i (P i S))], fun a => Sh.spec_DrawGoodOps a⟩
def a8 : Ann := Az (Az Aq)
noncomputable def f8 : Fn := ⟨[L i], [L (P i (P i S))], fun a => Sh.spec_DrawRecoverableOf a⟩
def a9 : Ann := Az o36
noncomputable def f9 : Fn := ⟨[i, i, i], [b], fun a => Sh.impl_in a.1 a.2.1 a.2.2⟩
def a10 : Ann := Az Aq
noncomputable def f10 : Fn := ⟨[S, S], [S], fun a => Sh.strings_Trim a.1 a.2⟩
def a11 : Ann := Az o54
noncomputable def f11 : Fn := ⟨[S], [b], fun a => Sh.impl_isKey a⟩
def a12 : Ann := Az (As o47 (As o47 (As (Az (Ab (some (5, [L b, L b])) true (As (Ai [L b, L b, i]) (Al 5 [L b, L b, i] [(0, 5)] [[L b, L b], [b]] (As (Az (As (Ac none true Aq (As o47 Aq)) (As (Ab (some (8, [L b, L b])) true (As (As o9 (As (As (Ai [b, b, b, b, b, b]) o1) (As (Ai [L b]) (Ai [L b])))) o47)) (Ai [])))) (Ai [L b, L b, i])))))) o36)))
noncomputable def f12 : Fn := ⟨[L (P i (P i S))], [b], fun a => Sh.impl_areOps a⟩
def a13 : Ann := Az (As (Az (Ab (some (2, [])) true (As (Ai [i]) (Al 2 [i] [(0, 2)] [[], [i]] (As (As (Az o8) (As (Ab (some (3, [])) true (As o23 (Ai []))) (Ai []))) (Ai [i])))))) (Az Aq))
noncomputable def f13 : Fn := ⟨[L (P i (P i S)), i], [i], fun a => Sh.impl_writerAt a.1 a.2⟩
def a14 : Ann := Az (As (Az o1) (Az (As (Az (Ab (some (2, [L (P i i)])) false (As o4 (Al 2 [L (P i i), i] [(0, 2)] [[L (P i i)]] (As (Az (As o13 (As (Ab (some (4, [L (P i i)])) false (As (As o9 (Az (Ac (some (5, [L (P i i)])) false (As o3 o3) o34))) o3)) (Ai [])))) o4))))) (Az (As (Az (Ab (some (3, [b, b, b])) false (As o44 (Al 3 [b, b, b, i] [(2, 3)] [[b, b, b]] (As (Az (As o52 (As (Ab (some (7, [b, b, b])) false (As (As o9 (Az (As o48 (Az (As (Ai [b]) (Az (Ac (some (12, [b, b])) false o51 (As Aq o16)))))))) o24)) (Ai [])))) o44))))) (Az Aq))))))
noncomputable def f14 : Fn := ⟨[L (P i (P i S))], [b, b, b, b], fun a => Sh.impl_RecoverableOf a⟩
def a15 : Ann := Az o36
noncomputable def f15 : Fn := ⟨[i, i, i], [b], fun a => Sh.spec_l1In a.1 a.2.1 a.2.2⟩
def a16 : Ann := Az (As (Az (Ab (some (1, [])) true (As (Ai [i]) (Al 1 [i] [(0, 1)] [[], [b]] (As (As (Az o8) (As (Ab (some (2, [])) true (As (Az (As o24 o1)) (Ai []))) (Ai []))) (Ai [i])))))) (Az Aq))
noncomputable def f16 : Fn := ⟨[S], [b], fun a => Sh.spec_l1Key a⟩
def a17 : Ann := Az (As (Az o1) (As (Az (Ab (some (1, [])) true (As (Ai [i]) (Al 1 [i] [(0, 1)] [[], [b]] (As (Az (As o8 (As (Ab (some (2, [])) true (As (As o9 (As (As (Ai [b, b, b, b]) o1) (Az (Az (As (Az (Ab (some (10, [b, b])) false (As (Ai [b, b, i]) (Al 10 [b, b, i] [(2, 10)] [[b, b]] (As (Az (As (Ac none true Aq o54) (As (Ab (some (13, [b, b])) false (As (As o9 (As (Ai [b]) o16)) o16)) (Ai [])))) (Ai [b, b, i])))))) (As o24 o1)))))) (Ai []))) (Ai [])))) (Ai [i])))))) (Az Aq)))
noncomputable def f17 : Fn := ⟨[L (P i (P i S))], [b], fun a => Sh.spec_GoodOps a⟩
def a18 : Ann := Az (As (Az (Ab (some (3, [])) true (As (Ai [i]) (Al 3 [i] [(0, 3)] [[], [i, i]] (As (As (Az o8) (As (Ab (some (4, [])) true (As o23 (Ai []))) (Ai []))) (Ai [i])))))) (Az Aq))
noncomputable def f18 : Fn := ⟨[L (P i (P i S)), i, S], [i, i], fun a => Sh.spec_l3Last a.1 a.2.1 a.2.2⟩
def a19 : Ann := Az (As (Az o1) (Az (Az (Az (As (Az (Ab (some (2, [b, b, b])) false (As o44 (Al 2 [b, b, b, i] [(0, 2)] [[b, b, b]] (As (Az (As o52 (As (Ab (some (6, [b, b, b])) false (As (As o9 (Az (As o48 (Az (As (Ai [b]) (Az (Ac (some (13, [b, b])) false o51 (As Aq o16)))))))) o24)) (Ai [])))) o44))))) (Az Aq))))))
noncomputable def f19 : Fn := ⟨[L (P i (P i S))], [b, b, b, b], fun a => Sh.spec_RecoverableOf a⟩
def a20 : Ann := Az (As (Az o1) (As o3 (As (Az (Ab (some (3, [L (P i i)])) false (As o4 (Al 3 [L (P i i), i] [(0, 3)] [[L (P i i)]] (As (Az (As o13 (As (Ab (some (5, [L (P i i)])) false (As (As o9 (Az (Ac (some (6, [L (P i i)])) false (As o40 o3) o34))) o3)) (Ai [])))) o4))))) (Az Aq))))
noncomputable def f20 : Fn := ⟨[L (P i (P i S))], [L (P i i), b], fun a => Sh.impl_ReadsFrom a⟩
def a21 : Ann := Az (As (Az o1) (Az (As (Az (Ab (some (2, [L (P i i)])) false (As o4 (Al 2 [L (P i i), i] [(0, 2)] [[L (P i i)]] (As (Az (As o13 (As (Ab (some (4, [L (P i i)])) false (As (As o9 (Az (Ac (some (5, [L (P i i)])) false (As (Az o40) o3) o34))) o3)) (Ai [])))) o4))))) (Az Aq))))
noncomputable def f21 : Fn := ⟨[L (P i (P i S))], [L (P i i), b], fun a => Sh.spec_ReadsFrom a⟩
def a22 : Ann := Az (Az (As (Az (Ab (some (1, [L i])) false (As o30 (Al 1 [L i, i] [(0, 1)] [[L i]] (As (As (Az o11) (As (Ab (some (3, [L i])) false (As (Az (Ab (some (3, [L i])) false (As (Ai [i]) (Al 3 [i] [(2, 3)] [[L i]] (As (Az (As o11 (As (Ab (some (4, [])) true (As (As o9 (Az (Ac none true (As o18 o59) Aq))) (Ai []))) (Ai [])))) (Ai [i])))))) o17)) (Ai []))) o30))))) (Az Aq)))
noncomputable def f22 : Fn := ⟨[L (P i (P i S))], [L i], fun a => Sh.spec_l3Txns a⟩
def a23 : Ann := Az (Az (Az (Az (As (Az (Ab (some (5, [i, i, L i])) false (As o61 (Al 5 [i, i, L i, i] [(0, 5)] [[i, i, L i]] (As (As (Az (Ac none true Aq (As (Ai [i, i, L i]) Aq))) (As (Ab (some (9, [i, i, L i])) false (As (Az (Az (As o17 o17))) (Ai [i, i, L i]))) (Ai []))) o61))))) (As (Az (Ac (some (11, [L i])) false o57 (As Aq o17))) (Az Aq))))))
noncomputable def f23 : Fn := ⟨[L i], [L (P i (P i S)), L i], fun a => Sh.spec_DrawSerialOps a⟩
def a24 : Ann := Az (As o33 (As o32 (Az Aq)))
noncomputable def f24 : Fn := ⟨[i], [i], fun a => Sh.math_bits_Len32 a⟩
def a25 : Ann := Az (As o33 (As o32 (As (Az (Ac (some (5, [i, i])) false o58 o55)) (Az Aq))))
noncomputable def f25 : Fn := ⟨[i], [i], fun a => Sh.math_bits_Len64 a⟩
def a26 : Ann := Az (As o1 (Az Aq))
noncomputable def f26 : Fn := ⟨[i], [i], fun a => Sh.math_bits_Len a⟩
def a27 : Ann := Az (Az Aq)
noncomputable def f27 : Fn := ⟨[i], [b], fun a => Sh.cmp_isNaN_int a⟩
def a28 : Ann := Az o54
noncomputable def f28 : Fn := ⟨[i, i], [b], fun a => Sh.cmp_Less_int a.1 a.2⟩
def a29 : Ann := As (Az (Ab (some (3, [L i])) false (As o30 (Al 3 [L i, i] [(0, 3)] [[L i]] (As (As (Az o11) (As (Ab (some (5, [L i])) false (As (Az (Ab (some (5, [L i])) false (As o30 (Al 5 [L i, i] [(2, 5)] [[L i]] (As (As (As (Ai [b]) o11) (As (Ab (some (9, [L i])) false o57) (Ai []))) o30))))) o17)) (Ai []))) o30))))) Aq
noncomputable def f29 : Fn := ⟨[L i, i, i], [L i], fun a => Sh.slices_insertionSortOrdered_int a.1 a.2.1 a.2.2⟩
def a30 : Ann := Az (Az (Ab none true (Az (Al 4 [] [] [[L i]] (Ab none true (Az o38))))))
noncomputable def f30 : Fn := ⟨[L i, i, i, i], [L i], fun a => Sh.slices_pdqsortOrdered_int a.1 a.2.1 a.2.2.1 a.2.2.2⟩
def a31 : Ann := As o10 Aq
noncomputable def f31 : Fn := ⟨[L i], [L i], fun a => Sh.slices_Sort__int_int a⟩
def a32 : Ann := Az (As o17 (As (Az (Ab (some (2, [L i])) false (As o30 (Al 2 [L i, i] [(0, 2)] [[L i]] (As (Az (As o11 (As (Ab (some (4, [L i])) false (As (As o9 (Az (Ac (some (5, [L i])) false o57 (As Aq o17)))) o17)) (Ai [])))) o30))))) o31))
noncomputable def f32 : Fn := ⟨[L (P i (P i S))], [L i], fun a => Sh.impl_txnsOf a⟩
def a33 : Ann := Az (As (Az o1) o25)
noncomputable def f33 : Fn := ⟨[L i, L i], [b], fun a => Sh.slices_Equal__int_int a.1 a.2⟩
def a34 : Ann := Az (As (Az o1) (As o18 (Az (As (Az o1) (As o15 (As (Az (Ab (some (9, [L o2])) false (As o28 (Al 9 [L o2, i] [(0, 9)] [[L o2]] (As (Az (As o27 (As (Ab (some (11, [L o2])) false (As (Az (Az (Ab (some (11, [L o2])) false (As o28 (Al 11 [L o2, i] [(2, 11)] [[L o2]] (As (Az (As o27 (As (Ab (some (13, [L o2])) false (As (As o9 (Az (Ac (some (14, [L o2])) false o56 o60))) o15)) (Ai [])))) o28)))))) o15)) (Ai [])))) o28))))) (Az Aq)))))))
noncomputable def f34 : Fn := ⟨[L (P i (P i S)), L i], [L (P i (P i S)), b], fun a => Sh.impl_SerialOps a.1 a.2⟩
def a35 : Ann := Az o25
noncomputable def f35 : Fn := ⟨[L i, i], [b], fun a => Sh.spec_l1Has a.1 a.2⟩
def a36 : Ann := Az (Az (As o23 (As (Az (Ab (some (5, [])) true (As (Ai [i]) (Al 5 [i] [(0, 5)] [[], [L o2, b]] (As (Az (As o8 (As (Ab (some (6, [])) true (As (Az o23) (Ai []))) (Ai [])))) (Ai [i])))))) (Az (As (Az (Ab (some (5, [L o2])) false (As o28 (Al 5 [L o2, i] [(2, 5)] [[L o2]] (As (Az (As o27 (As (Ab (some (7, [L o2])) false (As (Az (Az (Ab (some (7, [L o2])) false (As o28 (Al 7 [L o2, i] [(4, 7)] [[L o2]] (As (Az (As o27 (As (Ab (some (9, [L o2])) false (As (As o9 (Az (Ac (some (10, [L o2])) false o56 o60))) o15)) (Ai [])))) o28)))))) o15)) (Ai [])))) o28))))) (Az Aq))))))
noncomputable def f36 : Fn := ⟨[L (P i (P i S)), L i], [L (P i (P i S)), b], fun a => Sh.spec_SerialOps a.1 a.2⟩
def a37 : Ann := Az (As (Az o1) (As (Az (Ab (some (2, [])) true (As (Ai [i]) (Al 2 [i] [(0, 2)] [[], [b]] (As (Az (As o8 (As (Ab (some (3, [])) true (As (Az (As (Ai [P i (P i S), P i (P i S)]) o1)) (Ai []))) (Ai [])))) (Ai [i])))))) (Az Aq)))
noncomputable def f37 : Fn := ⟨[L (P i (P i S)), L (P i (P i S))], [b], fun a => Sh.laws_sameOps a.1 a.2⟩
def a38 : Ann := Az (Az (Az (As (Az (Ac none true o38 Aq)) (As (Az o1) (As (Az o1) o38)))))
noncomputable def f38 : Fn := ⟨[i, i], [i], fun a => Sh.cmp_Compare_int a.1 a.2⟩
def a39 : Ann := Az (Az (As (Az (Ab (some (1, [])) true (As (Ai [i]) (Al 1 [i] [(0, 1)] [[], [i]] (As (Az (As o8 (As (Ab (some (2, [])) true o42) (Ai [])))) (Ai [i])))))) (Az Aq)))
noncomputable def f39 : Fn := ⟨[L i], [i], fun a => Sh.cmp_Or_int a⟩
def a40 : Ann := Az o59
noncomputable def f40 : Fn := ⟨[i, i, i, i], [i], fun a => Sh.impl_sortPairs_1 a.1 a.2.1 a.2.2.1 a.2.2.2⟩
def a41 : Ann := As (Az (Ab (some (3, [L (P i i)])) false (As o4 (Al 3 [L (P i i), i] [(0, 3)] [[L (P i i)]] (As (As (Az o13) (As (Ab (some (5, [L (P i i)])) false (As (Az (Ab (some (5, [L (P i i)])) false (As o4 (Al 5 [L (P i i), i] [(2, 5)] [[L (P i i)]] (As (As (As o29 o13) (As (Ab (some (11, [L (P i i)])) false (As o5 o3)) (Ai []))) o4))))) o3)) (Ai []))) o4))))) Aq
noncomputable def f41 : Fn := ⟨[L (P i i), i, i], [L (P i i)], fun a => Sh.slices_insertionSortCmpFunc_impl_Pair a.1 a.2.1 a.2.2⟩
def a42 : Ann := As (Az (Ab (some (4, [L (P i i)])) true (As o4 (Al 4 [L (P i i), i] [(0, 4)] [[L (P i i)], [L (P i i)]] (As (Ab (some (6, [L (P i i), i])) true (As (Az (As (Az o53) (As (As o29 (Ac (some (10, [i])) false o45 o35)) (As (As o21 o49) (As o5 (Ai [])))))) o4)) o4))))) Aq
noncomputable def f42 : Fn := ⟨[L (P i i), i, i, i], [L (P i i)], fun a => Sh.slices_siftDownCmpFunc_impl_Pair a.1 a.2.1 a.2.2.1 a.2.2.2⟩
def a43 : Ann := As (Az (Az (Az (As (Az (Ab (some (3, [L (P i i)])) false (As o4 (Al 3 [L (P i i), i] [(0, 3)] [[L (P i i)]] (As (As (Az o13) (As (Ab (some (5, [L (P i i)])) false (Az o3)) (Ai []))) o4))))) (Az (Ab (some (4, [L (P i i)])) false (As o4 (Al 4 [L (P i i), i] [(2, 4)] [[L (P i i)]] (As (As (Az o13) (As (Ab (some (6, [L (P i i)])) false (As (As o5 (Ai [])) o3)) (Ai []))) o4))))))))) Aq
noncomputable def f43 : Fn := ⟨[L (P i i), i, i], [L (P i i)], fun a => Sh.slices_heapSortCmpFunc_impl_Pair a.1 a.2.1 a.2.2⟩
def a44 : Ann := Az (Az Aq)
noncomputable def f44 : Fn := ⟨[i], [i], fun a => Sh.slices_nextPowerOfTwo a⟩
def a45 : Ann := Az (Az (Az o31))
noncomputable def f45 : Fn := ⟨[i], [i], fun a => Sh.slices_xorshift_Next a⟩
def a46 : Ann := As (Az (Az (Ac (some (3, [L (P i i)])) false (As (Az (Az (Az (Ab (some (4, [L (P i i)])) false (As o6 (Al 4 [L (P i i), i, i] [(0, 4)] [[L (P i i)]] (As (As (Az o13) (As (Ab (some (7, [L (P i i), i])) false (As (Az (As (Az (Ac (some (8, [i])) false o45 o35)) o5)) o4)) (Ai []))) o6))))))) o3) o34))) Aq
noncomputable def f46 : Fn := ⟨[L (P i i), i, i], [L (P i i)], fun a => Sh.slices_breakPatternsCmpFunc_impl_Pair a.1 a.2.1 a.2.2⟩
def a47 : Ann := Az (As (As o21 (Ac none true o31 Aq)) (Az Aq))
noncomputable def f47 : Fn := ⟨[L (P i i), i, i, i], [i, i, i], fun a => Sh.slices_order2CmpFunc_impl_Pair a.1 a.2.1 a.2.2.1 a.2.2.2⟩
def a48 : Ann := Az (Az (Az o31))
noncomputable def f48 : Fn := ⟨[L (P i i), i, i, i, i], [i, i], fun a => Sh.slices_medianCmpFunc_impl_Pair a.1 a.2.1 a.2.2.1 a.2.2.2.1 a.2.2.2.2⟩
def a49 : Ann := Az (Az Aq)
noncomputable def f49 : Fn := ⟨[L (P i i), i, i], [i, i], fun a => Sh.slices_medianAdjacentCmpFunc_impl_Pair a.1 a.2.1 a.2.2⟩
def a50 : Ann := Az (Az (Az (Az (Az (Az (As (Az (Ac (some (3, [i, i])) false (As (As (Az (Ac (some (3, [i, i, i, i])) false (As (Az o10) (Ai [i, i, i, i])) (As Aq (Ai [i, i, i, i])))) (Ai [])) o12) o55)) (Az (Ab none true (Az (Ac none true (Az Aq) (Az (Ac none true (Az Aq) (Az Aq)))))))))))))
noncomputable def f50 : Fn := ⟨[L (P i i), i, i], [i, i], fun a => Sh.slices_choosePivotCmpFunc_impl_Pair a.1 a.2.1 a.2.2⟩
def a51 : Ann := As (Az (Az (Ab (some (3, [L (P i i)])) false (As o6 (Al 3 [L (P i i), i, i] [(0, 3)] [[L (P i i)]] (As (As (Az o13) (Ab (some (6, [L (P i i)])) false (As (As o5 o10) o3))) o6)))))) Aq
noncomputable def f51 : Fn := ⟨[L (P i i), i, i], [L (P i i)], fun a => Sh.slices_reverseRangeCmpFunc_impl_Pair a.1 a.2.1 a.2.2⟩
def a52 : Ann := Az (Az (As (Az (Ab (some (3, [L (P i i)])) true (As o6 (Al 3 [L (P i i), i, i] [(0, 3)] [[L (P i i)], [L (P i i), b]] (As (As (Az o13) (As (Ab (some (6, [L (P i i), i])) true (As (As (Ab (some (6, [i])) false (As (Ai [i]) (Al 6 [i] [(2, 6)] [[i]] (As (As o7 (Ab (some (11, [])) false o10)) (Ai [i]))))) (As (Az o1) (As (Az o1) (As o5 (As (Az (Ac (some (11, [L (P i i)])) false (As (Az (Ab (some (11, [L (P i i)])) false (As o4 (Al 11 [L (P i i), i] [(4, 11)] [[L (P i i)]] (As (As (Az o13) (As (Ab (some (13, [L (P i i)])) true o39) (Ai []))) o4))))) o3) o34)) (Az (Ac (some (12, [L (P i i)])) false (As (Az (Ab (some (12, [L (P i i)])) false (As o4 (Al 12 [L (P i i), i] [(6, 12)] [[L (P i i)]] (As (As (Az o13) (As (Ab (some (14, [L (P i i)])) true o39) (Ai []))) o4))))) o3) o34))))))) o4)) (Ai []))) o6))))) (Az Aq)))
noncomputable def f52 : Fn := ⟨[L (P i i), i, i], [L (P i i), b], fun a => Sh.slices_partialInsertionSortCmpFunc_impl_Pair a.1 a.2.1 a.2.2⟩
def a53 : Ann := Az (As o5 (Az (As (Ab (some (8, [L (P i i), i])) false (As o6 (Al 8 [L (P i i), i, i] [(0, 8)] [[L (P i i), i]] (As (Ab (some (11, [L (P i i), i, i])) true (As (As (Ab (some (11, [i])) false (As (Ai [i]) (Al 11 [i] [(2, 11)] [[i]] (As (As o7 (Ab (some (16, [])) false o10)) (Ai [i]))))) (As (Ab (some (12, [i])) false (As (Ai [i]) (Al 12 [i] [(4, 12)] [[i]] (As (As o7 (Ab (some (17, [])) false o10)) (Ai [i]))))) o41)) o6)) o6)))) (Az Aq))))
noncomputable def f53 : Fn := ⟨[L (P i i), i, i, i], [L (P i i), i], fun a => Sh.slices_partitionEqualCmpFunc_impl_Pair a.1 a.2.1 a.2.2.1 a.2.2.2⟩
def a54 : Ann := Az (As o5 (Az (As (Ab (some (8, [i])) false (As (Ai [i]) (Al 8 [i] [(0, 8)] [[i]] (As (As o7 (Ab (some (13, [])) false o10)) (Ai [i]))))) (As (Ab (some (9, [i])) false (As (Ai [i]) (Al 9 [i] [(2, 9)] [[i]] (As (As o7 (Ab (some (14, [])) false o10)) (Ai [i]))))) (As (Az (Ac none true (As o5 (Az Aq)) Aq)) (As o5 (Az (Az (As (Ab (some (14, [L (P i i), i])) false (As o6 (Al 14 [L (P i i), i, i] [(4, 14)] [[L (P i i), i]] (As (Ab (some (17, [L (P i i), i, i])) true (As (As (Ab (some (17, [i])) false (As (Ai [i]) (Al 17 [i] [(6, 17)] [[i]] (As (As o7 (Ab (some (22, [])) false o10)) (Ai [i]))))) (As (Ab (some (18, [i])) false (As (Ai [i]) (Al 18 [i] [(8, 18)] [[i]] (As (As o7 (Ab (some (23, [])) false o10)) (Ai [i]))))) o41)) o6)) o6)))) (As o5 (Az Aq)))))))))))
noncomputable def f54 : Fn := ⟨[L (P i i), i, i, i], [L (P i i), i, b], fun a => Sh.slices_partitionCmpFunc_impl_Pair a.1 a.2.1 a.2.2.1 a.2.2.2⟩
def a55 : Ann := Az (Az (Ab none true (As o6 (Al 4 [L (P i i), i, i] [] [[L (P i i)]] (As (Ab (some (7, [L (P i i), i, i])) true (Az (As (Az o1) (As (Az o1) (As (Az (Ac (some (7, [L (P i i), i])) false (As o10 o4) (As Aq o4))) (Az (As (Az (Ac (some (11, [L (P i i), i, i])) false (As (Az o10) o6) (As Aq o6))) (As (As o16 (Ac (some (16, [L (P i i)])) true (As (Az o49) o3) o34)) (As (As o29 (Ac none true (Az (Az (As o6 Aq))) Aq)) (Az (Az (Az (Az (Az (Ac none true o31 o31))))))))))))))) o6)))))
noncomputable def f55 : Fn := ⟨[L (P i i), i, i, i], [L (P i i)], fun a => Sh.slices_pdqsortCmpFunc_impl_Pair a.1 a.2.1 a.2.2.1 a.2.2.2⟩
def a56 : Ann := Az (Az (Ab none true (As o20 (Al 4 [L (P i i), i, i, i, b, b] [] [[L (P i i)]] (As (Ab (some (10, [L (P i i), i, i, i, b, b])) true (As (Az (As (Az o1) (As (Az o1) (As (Az (Ac (some (10, [L (P i i), i])) false (As o10 o4) (As Aq o4))) (Az (As (Az (Ac (some (14, [L (P i i), i, i])) false (As (Az o10) o6) (As Aq o6))) (As (As o16 (Ac (some (19, [L (P i i)])) true (As (Az o49) o3) o34)) (As (As o29 (Ac none true (Az (Az (As o20 Aq))) Aq)) (Az (Az (Az (Az (Az (Ac (some (27, [L (P i i), i, i, b])) false o46 o46)))))))))))))) o20)) o20)))))
noncomputable def f56 : Fn := ⟨[L (P i i), i, i, i], [L (P i i)], fun a => Sh.slices_pdqsortCmpFunc_impl_Pair' a.1 a.2.1 a.2.2.1 a.2.2.2⟩
def a57 : Ann := a56
noncomputable def f57 : Fn := ⟨[L (P i i), i, i, i], [L (P i i)], fun a => Sh.slices_pdqsortCmpFunc_impl_Pair'' a.1 a.2.1 a.2.2.1 a.2.2.2⟩
def a58 : Ann := a56
noncomputable def f58 : Fn := ⟨[L (P i i), i, i, i], [L (P i i)], fun a => Sh.slices_pdqsortCmpFunc_impl_Pair''' a.1 a.2.1 a.2.2.1 a.2.2.2⟩
def a59 : Ann := a56
noncomputable def f59 : Fn := ⟨[L (P i i), i, i, i], [L (P i i)], fun a => Sh.slices_pdqsortCmpFunc_impl_Pair'''' a.1 a.2.1 a.2.2.1 a.2.2.2⟩
def a60 : Ann := a56
noncomputable def f60 : Fn := ⟨[L (P i i), i, i, i], [L (P i i)], fun a => Sh.slices_pdqsortCmpFunc_impl_Pair''''' a.1 a.2.1 a.2.2.1 a.2.2.2⟩
def a61 : Ann := a56
noncomputable def f61 : Fn := ⟨[L (P i i), i, i, i], [L (P i i)], fun a => Sh.slices_pdqsortCmpFunc_impl_Pair'''''' a.1 a.2.1 a.2.2.1 a.2.2.2⟩
def a62 : Ann := a56
noncomputable def f62 : Fn := ⟨[L (P i i), i, i, i], [L (P i i)], fun a => Sh.slices_pdqsortCmpFunc_impl_Pair''''''' a.1 a.2.1 a.2.2.1 a.2.2.2⟩
def a63 : Ann := a56
noncomputable def f63 : Fn := ⟨[L (P i i), i, i, i], [L (P i i)], fun a => Sh.slices_pdqsortCmpFunc_impl_Pair'''''''' a.1 a.2.1 a.2.2.1 a.2.2.2⟩
def a64 : Ann := a56
noncomputable def f64 : Fn := ⟨[L (P i i), i, i, i], [L (P i i)], fun a => Sh.slices_pdqsortCmpFunc_impl_Pair''''''''' a.1 a.2.1 a.2.2.1 a.2.2.2⟩
def a65 : Ann := As o10 Aq
noncomputable def f65 : Fn := ⟨[L (P i i)], [L (P i i)], fun a => Sh.slices_SortFunc__impl_Pair_impl_Pair a⟩
def a66 : Ann := Az (As (Az o1) (As (Az (Ab (some (1, [])) true (As (Ai [i]) (Al 1 [i] [(0, 1)] [[], [L (P i i), i]] (As (As (Az o8) (As (Ab (some (2, [])) true (As (As o21 (Ac none true (Az (As (Az (Ab (some (4, [L (P i i), i])) false (As o6 (Al 4 [L (P i i), i, i] [(2, 4)] [[L (P i i), i]] (As (As (Az (Ac none true Aq (As o4 Aq))) (As (Ab (some (7, [L (P i i), i])) false (As (As o21 (Ac (some (9, [L (P i i), i])) false (As (As (Ai [P i i, L (P i i)]) (Ai [])) o4) (As Aq o4))) o4)) (Ai []))) o6))))) (As o3 (Az Aq)))) Aq)) (Ai []))) (Ai []))) (Ai [i])))))) (Az Aq)))
noncomputable def f66 : Fn := ⟨[L (P i i)], [L (P i i), i], fun a => Sh.slices_Compact__impl_Pair_impl_Pair a⟩
def a67 : Ann := Az o31
noncomputable def f67 : Fn := ⟨[L (P i i)], [L (P i i), i], fun a => Sh.impl_sortPairs a⟩
def a68 : Ann := Az (As o3 (As (Az (Ab (some (2, [L (P i i)])) false (As o4 (Al 2 [L (P i i), i] [(0, 2)] [[L (P i i)]] (As (Az (As o13 (As (Ab (some (4, [L (P i i)])) false (As (As o9 (Az (Ab (some (5, [L (P i i)])) false (As o4 (Al 5 [L (P i i), i] [(2, 5)] [[L (P i i)]] (As (Az (As o13 (As (Ab (some (7, [L (P i i)])) false (As (As o9 (As (Ai [b, b, b, b]) (Ac (some (12, [L (P i i)])) false (As o40 o3) o34))) o3)) (Ai [])))) o4)))))) o3)) (Ai [])))) o4))))) (Az Aq)))
noncomputable def f68 : Fn := ⟨[L (P i (P i S))], [L (P i i), i], fun a => Sh.impl_conflicts a⟩
def a69 : Ann := Az (As (Az (Ab (some (2, [])) true (As (Ai [i]) (Al 2 [i] [(0, 2)] [[], [i]] o14)))) (Az Aq))
noncomputable def f69 : Fn := ⟨[L i, i], [i], fun a => Sh.slices_Index__int_int a.1 a.2⟩
def a70 : Ann := Az (Az Aq)
noncomputable def f70 : Fn := ⟨[L i, i], [b], fun a => Sh.slices_Contains__int_int a.1 a.2⟩
def a71 : Ann := Az o36
noncomputable def f71 : Fn := ⟨[i, i, i, L i], [b], fun a => Sh.impl_SerialOrder_1_1 a.1 a.2.1 a.2.2.1 a.2.2.2⟩
def a72 : Ann := Az (As (Az (Ab (some (3, [])) true (As (Ai [i]) (Al 3 [i] [(0, 3)] [[], [i]] (As (Az (As o8 (As (Ab (some (4, [])) true (As (Az (As (Ai [P i i]) o1)) (Ai []))) (Ai [])))) (Ai [i])))))) (Az Aq))
noncomputable def f72 : Fn := ⟨[L (P i i), i, L i], [i], fun a => Sh.slices_IndexFunc__impl_Pair_impl_Pair a.1 a.2.1 a.2.2⟩
def a73 : Ann := Az (Az Aq)
noncomputable def f73 : Fn := ⟨[L (P i i), i, L i], [b], fun a => Sh.slices_ContainsFunc__impl_Pair_impl_Pair a.1 a.2.1 a.2.2⟩
def a74 : Ann := Az (Az Aq)
noncomputable def f74 : Fn := ⟨[i, L (P i i), L i], [b], fun a => Sh.impl_SerialOrder_1 a.1 a.2.1 a.2.2⟩
def a75 : Ann := Az (As (Az (Ab (some (3, [])) true (As (Ai [i]) (Al 3 [i] [(0, 3)] [[], [i]] (As (Az (As o8 (As (Ab (some (4, [])) true o42) (Ai [])))) (Ai [i])))))) (Az Aq))
noncomputable def f75 : Fn := ⟨[L i, L (P i i), L i], [i], fun a => Sh.slices_IndexFunc__int_int'''''' a.1 a.2.1 a.2.2⟩
def a76 : Ann := Az Aq
noncomputable def f76 : Fn := ⟨[L i, i, i], [L i], fun a => Sh.slices_Delete__int_int a.1 a.2.1 a.2.2⟩
def a77 : Ann := Az (As (Az o1) (Az (As o17 (As (Ab (some (6, [L i])) true (As o18 (Al 6 [L i, L i] [(0, 6)] [[L i], [L i, b]] (As (As (Az o11) (Ab (some (8, [L i, L i])) true (As (Az (As (Az o1) (As o18 (Ai [])))) o18))) o18)))) (Az Aq)))))
noncomputable def f77 : Fn := ⟨[L (P i (P i S))], [L i, b], fun a => Sh.impl_SerialOrder a⟩
def a78 : Ann := Az (As (Az o1) (Az (Az (Az (Az (Az (As (As (Ai [b, b, b, b, b, b, b, b]) o1) (Az (As (Az (Ab (some (23, [i])) false (As o12 (Al 23 [i, i] [(0, 23)] [[i]] (As (Az (As o50 (As (Ab (some (25, [i])) false (As (As o9 (Az (Ac (some (26, [i])) false o45 o35))) (Ai [i]))) (Ai [])))) o12))))) (As o23 (Az (Az (Az (As o23 (As (Az o1) (Az (Az o54)))))))))))))))))
noncomputable def f78 : Fn := ⟨[L i, L i], [b], fun a => Sh.laws_FnStrict a.1 a.2⟩
noncomputable def fs : List Fn := [f0, f1, f2, f3, f4, f5, f6, f7, f8, f9, f10, f11, f12, f13, f14, f15, f16, f17, f18, f19, f20, f21, f22, f23, f24, f25, f26, f27, f28, f29, f30, f31, f32, f33, f34, f35, f36, f37, f38, f39, f40, f41, f42, f43, f44, f45, f46, f47, f48, f49, f50, f51, f52, f53, f54, f55, f56, f57, f58, f59, f60, f61, f62, f63, f64, f65, f66, f67, f68, f69, f70, f71, f72, f73, f74, f75, f76, f77, f78]
abbrev Qt (f : Fn) (n : Nat) (p : PI) (h : Ann) : Prop := ∀ a, f.f a = dnFn fs n p h f.ins f.outs a
theorem t0 : Qt f0 0 p0 a0 := by intro a; kernel_rfl
theorem t1 : Qt f1 1 p1 a1 := by intro a; kernel_rfl
theorem t2 : Qt f2 2 p2 a2 := by intro a; kernel_rfl
theorem t3 : Qt f3 3 p3 a3 := by intro a; kernel_rfl
theorem t4 : Qt f4 4 p4 a4 := by intro a; kernel_rfl
theorem t5 : Qt f5 5 p5 a5 := by intro a; kernel_rfl
theorem t6 : Qt f6 6 p6 a6 := by intro a; kernel_rfl
theorem t7 : Qt f7 7 p7 a7 := by intro a; kernel_rfl
theorem t8 : Qt f8 8 p8 a8 := by intro a; kernel_rfl
theorem t9 : Qt f9 9 p9 a9 := by intro a; kernel_rfl
theorem t10 : Qt f10 10 p10 a10 := by intro a; kernel_rfl
theorem t11 : Qt f11 11 p11 a11 := by intro a; kernel_rfl
theorem t12 : Qt f12 12 p12 a12 := by intro a; kernel_rfl
theorem t13 : Qt f13 13 p13 a13 := by intro a; kernel_rfl
theorem t14 : Qt f14 14 p14 a14 := by intro a; kernel_rfl
theorem t15 : Qt f15 15 p15 a15 := by intro a; kernel_rfl
theorem t16 : Qt f16 16 p16 a16 := by intro a; kernel_rfl
theorem t17 : Qt f17 17 p17 a17 := by intro a; kernel_rfl
theorem t18 : Qt f18 18 p18 a18 := by intro a; kernel_rfl
theorem t19 : Qt f19 19 p19 a19 := by intro a; kernel_rfl
theorem t20 : Qt f20 20 p20 a20 := by intro a; kernel_rfl
theorem t21 : Qt f21 21 p21 a21 := by intro a; kernel_rfl
theorem t22 : Qt f22 22 p22 a22 := by intro a; kernel_rfl
theorem t23 : Qt f23 23 p23 a23 := by intro a; kernel_rfl
theorem t24 : Qt f24 24 p24 a24 := by intro a; kernel_rfl
theorem t25 : Qt f25 25 p25 a25 := by intro a; kernel_rfl
theorem t26 : Qt f26 26 p26 a26 := by intro a; kernel_rfl
theorem t27 : Qt f27 27 p27 a27 := by intro a; kernel_rfl
theorem t28 : Qt f28 28 p28 a28 := by intro a; kernel_rfl
theorem t29 : Qt f29 29 p29 a29 := by intro a; kernel_rfl
theorem t30 : Qt f30 30 p30 a30 := by intro a; kernel_rfl
theorem t31 : Qt f31 31 p31 a31 := by intro a; kernel_rfl
theorem t32 : Qt f32 32 p32 a32 := by intro a; kernel_rfl
theorem t33 : Qt f33 33 p33 a33 := by intro a; kernel_rfl
theorem t34 : Qt f34 34 p34 a34 := by intro a; kernel_rfl
theorem t35 : Qt f35 35 p35 a35 := by intro a; kernel_rfl
theorem t36 : Qt f36 36 p36 a36 := by intro a; kernel_rfl
theorem t37 : Qt f37 37 p37 a37 := by intro a; kernel_rfl
theorem t38 : Qt f38 38 p38 a38 := by intro a; kernel_rfl
theorem t39 : Qt f39 39 p39 a39 := by intro a; kernel_rfl
theorem t40 : Qt f40 40 p40 a40 := by intro a; kernel_rfl
theorem t41 : Qt f41 41 p41 a41 := by intro a; kernel_rfl
theorem t42 : Qt f42 42 p42 a42 := by intro a; kernel_rfl
theorem t43 : Qt f43 43 p43 a43 := by intro a; kernel_rfl
theorem t44 : Qt f44 44 p44 a44 := by intro a; kernel_rfl
theorem t45 : Qt f45 45 p45 a45 := by intro a; kernel_rfl
theorem t46 : Qt f46 46 p46 a46 := by intro a; kernel_rfl
theorem t47 : Qt f47 47 p47 a47 := by intro a; kernel_rfl
theorem t48 : Qt f48 48 p48 a48 := by intro a; kernel_rfl
theorem t49 : Qt f49 49 p49 a49 := by intro a; kernel_rfl
theorem t50 : Qt f50 50 p50 a50 := by intro a; kernel_rfl
theorem t51 : Qt f51 51 p51 a51 := by intro a; kernel_rfl
theorem t52 : Qt f52 52 p52 a52 := by intro a; kernel_rfl
theorem t53 : Qt f53 53 p53 a53 := by intro a; kernel_rfl
theorem t54 : Qt f54 54 p54 a54 := by intro a; kernel_rfl
theorem t55 : Qt f55 55 p55 a55 := by intro a; kernel_rfl
theorem t56 : Qt f56 56 p56 a56 := by intro a; kernel_rfl
theorem t57 : Qt f57 57 p57 a57 := by intro a; kernel_rfl
theorem t58 : Qt f58 58 p58 a58 := by intro a; kernel_rfl
theorem t59 : Qt f59 59 p59 a59 := by intro a; kernel_rfl
theorem t60 : Qt f60 60 p60 a60 := by intro a; kernel_rfl
theorem t61 : Qt f61 61 p61 a61 := by intro a; kernel_rfl
theorem t62 : Qt f62 62 p62 a62 := by intro a; kernel_rfl
theorem t63 : Qt f63 63 p63 a63 := by intro a; kernel_rfl
theorem t64 : Qt f64 64 p64 a64 := by intro a; kernel_rfl
theorem t65 : Qt f65 65 p65 a65 := by intro a; kernel_rfl
theorem t66 : Qt f66 66 p66 a66 := by intro a; kernel_rfl
theorem t67 : Qt f67 67 p67 a67 := by intro a; kernel_rfl
theorem t68 : Qt f68 68 p68 a68 := by intro a; kernel_rfl
theorem t69 : Qt f69 69 p69 a69 := by intro a; kernel_rfl
theorem t70 : Qt f70 70 p70 a70 := by intro a; kernel_rfl
theorem t71 : Qt f71 71 p71 a71 := by intro a; kernel_rfl
theorem t72 : Qt f72 72 p72 a72 := by intro a; kernel_rfl
theorem t73 : Qt f73 73 p73 a73 := by intro a; kernel_rfl
theorem t74 : Qt f74 74 p74 a74 := by intro a; kernel_rfl
theorem t75 : Qt f75 75 p75 a75 := by intro a; kernel_rfl
theorem t76 : Qt f76 76 p76 a76 := by intro a; kernel_rfl
theorem t77 : Qt f77 77 p77 a77 := by intro a; kernel_rfl
theorem t78 : Qt f78 78 p78 a78 := by intro a; kernel_rfl
theorem tf : ∀ j F, fs[j]? = some F -> TfOk (sysOf ps) j F := zj1 (fs := fs) (ps := ps) (hs := [a0, a1, a2, a3, a4, a5, a6, a7, a8, a9, a10, a11, a12, a13, a14, a15, a16, a17, a18, a19, a20, a21, a22, a23, a24, a25, a26, a27, a28, a29, a30, a31, a32, a33, a34, a35, a36, a37, a38, a39, a40, a41, a42, a43, a44, a45, a46, a47, a48, a49, a50, a51, a52, a53, a54, a55, a56, a57, a58, a59, a60, a61, a62, a63, a64, a65, a66, a67, a68, a69, a70, a71, a72, a73, a74, a75, a76, a77, a78]) ⟨t0, t1, t2, t3, t4, t5, t6, t7, t8, t9, t10, t11, t12, t13, t14, t15, t16, t17, t18, t19, t20, t21, t22, t23, t24, t25, t26, t27, t28, t29, t30, t31, t32, t33, t34, t35, t36, t37, t38, t39, t40, t41, t42, t43, t44, t45, t46, t47, t48, t49, t50, t51, t52, t53, t54, t55, t56, t57, t58, t59, t60, t61, t62, t63, t64, t65, t66, t67, t68, t69, t70, t71, t72, t73, t74, t75, t76, t77, t78, trivial⟩
end Gp.YtddabbooahooeaaGreatDoor
