/- Gp: the seat's typed functions; each is the reading of its pure program (checked by the kernel). -/
import Derived.Test.YtkemehjdfcpipaaGpFFnCuts
import Derived.Test.YtkemehjdfcpipaaGpSh4
import Derived.Test.YtkemehjdfcpipaaShFnCuts
set_option maxRecDepth 100000
namespace Gp.Ytkemehjdfcpipaa
open Go Gp
abbrev As := @Ann.seq
abbrev Ai := @Ann.sis
abbrev Aq := @Ann.nil
abbrev Ac := @Ann.cond
abbrev Ab := @Ann.block
abbrev Al := @Ann.loop
abbrev i := Ty.int
abbrev b := Ty.bool
abbrev L := @Ty.list
abbrev P := @Ty.pair
abbrev S := Ty.str
def a0 : Ann := As (Ai []) (As (Ai []) (As (As (Ai []) (Ac (some (3, [i])) false (As (Ai []) (Ai [i])) (As Aq (Ai [i])))) (As (Ai []) (As (Ai []) (As (As (Ai []) (Ac none true (As (Ai []) Aq) Aq)) (As (Ai []) Aq))))))
noncomputable def f0 : Fn := ⟨[L i, i, i], [i, i, i], fun a => Sh.spec_l1Cur_next a.1 a.2.1 a.2.2⟩
def a1 : Ann := As (Ai []) (As (As (Ai []) (Ac none true (As (Ai []) Aq) Aq)) (As (Ai []) (As (As (Ai []) (Ac (some (7, [i, i, i])) false (As (Ai []) (Ai [i, i, i])) (As Aq (Ai [i, i, i])))) (As (Ai []) Aq))))
noncomputable def f1 : Fn := ⟨[L i, i, i, i], [i, i, i], fun a => Sh.spec_l1Cur_pick a.1 a.2.1 a.2.2.1 a.2.2.2⟩
def a2 : Ann := As (Ai []) (As (Ai []) Aq)
noncomputable def f2 : Fn := ⟨[L i, i, i, i], [i, i, b], fun a => Sh.spec_l1Cur_one a.1 a.2.1 a.2.2.1 a.2.2.2⟩
def a3 : Ann := As (Ai []) (As (Ai []) (As (Ai []) (As (Ai []) (As (Ai []) (As (As (Ai []) (Ac (some (9, [i, i, i])) false (As (Ai []) (Ai [i, i, i])) (As Aq (Ai [i, i, i])))) (As (Ab (some (12, [i, i, L (P i (P i i))])) false (As (Ai [i, i, L (P i (P i i)), L i, i, i]) (Al 12 [i, i, L (P i (P i i)), L i, i, i] [(0, 12)] [[i, i, L (P i (P i i))]] (As (As (As (Ai []) (Ac none true Aq (As (Ai [i, i, L (P i (P i i))]) Aq))) (As (Ab (some (18, [i, i, L (P i (P i i)), L i, i])) false (As (As (Ai []) (As (As (Ai []) (Ab (some (24, [i, i, L i, i, i, i])) false (As (As (As (Ai []) (Ac (some (24, [b])) false (As Aq (Ai [b])) (As (Ai []) (Ai [b])))) (Ac (some (25, [i, i, L i, i, i, i])) false (As (As (Ai []) (As (Ai []) (As (Ai [L i, L i]) (Ai [])))) (Ai [i, i, L i, i, i, i])) (As (As (Ai []) (Ac (some (25, [i, i, L i, i, i])) false (As (As (Ai []) (Ac (some (25, [i, i, L i, i, i])) false (As (As (Ai []) (As (Ai []) (As (Ai []) (Ai [L i, L i, L i])))) (Ai [i, i, L i, i, i])) (As Aq (Ai [i, i, L i, i, i])))) (Ai [i, i, L i, i, i])) (As Aq (Ai [i, i, L i, i, i])))) (Ai [i, i, L i, i, i, i])))) (Ai [i, i, L i, i, i, i])))) (Ai [L (P i (P i i)), L (P i (P i i))]))) (Ai [i, i, L (P i (P i i)), L i, i]))) (Ai []))) (Ai [i, i, L (P i (P i i)), L i, i, i]))))) (As (As (Ai []) (Ac (some (18, [i, i, L (P i (P i i))])) false (As (Ai [L (P i (P i i)), L (P i (P i i))]) (Ai [i, i, L (P i (P i i))])) (As Aq (Ai [i, i, L (P i (P i i))])))) (As (Ai []) Aq))))))))
noncomputable def f3 : Fn := ⟨[L i, i, i], [i, i, L (P i (P i i))], fun a => Sh.spec_l1Cur_events a.1 a.2.1 a.2.2⟩
def a4 : Ann := As (Ai []) (As (Ai [b]) Aq)
noncomputable def f4 : Fn := ⟨[i, i, i], [b], fun a => Sh.spec_l1In a.1 a.2.1 a.2.2⟩
def a5 : Ann := As (Ai []) (As (Ai []) Aq)
noncomputable def f5 : Fn := ⟨[L i, i, i, L i], [i, i, i], fun a => Sh.spec_l1Cur_among a.1 a.2.1 a.2.2.1 a.2.2.2⟩
def a6 : Ann := As (Ai []) (As (Ai [L i]) (As (As (Ai []) (Ab (some (5, [L i])) false (As (Ai [L i, i]) (Al 5 [L i, i] [(0, 5)] [[L i]] (As (As (Ai []) (As (Ac none true Aq (As (Ai [L i]) Aq)) (As (Ab (some (7, [L i])) false (As (As (Ai [P i (P i i)]) (As (Ai []) (Ac (some (9, [L i])) false (As (Ai [L i]) (Ai [L i])) (As Aq (Ai [L i]))))) (Ai [L i]))) (Ai [])))) (Ai [L i, i])))))) (As (As (Ai []) (Ab (some (6, [i, i, L i])) false (As (Ai [i, i, L i, i]) (Al 6 [i, i, L i, i] [(2, 6)] [[i, i, L i]] (As (As (Ai []) (As (Ac none true Aq (As (Ai [i, i, L i]) Aq)) (As (Ab (some (10, [i, i, L i])) false (As (As (Ai []) (Ai [L i])) (Ai [i, i, L i]))) (Ai [])))) (Ai [i, i, L i, i])))))) (As (As (Ai []) (Ac (some (12, [i, i, L i])) false (As (Ai [L i, L i]) (Ai [i, i, L i])) (As Aq (Ai [i, i, L i])))) (As (Ai []) Aq)))))
noncomputable def f6 : Fn := ⟨[L i, i, i, L (P i (P i i))], [i, i, L i], fun a => Sh.spec_l1Cur_cut a.1 a.2.1 a.2.2.1 a.2.2.2⟩
def a7 : Ann := As (Ai []) (As (Ai []) (As (Ai []) (As (Ai []) Aq)))
noncomputable def f7 : Fn := ⟨[L i], [L (P i (P i i)), L i], fun a => Sh.spec_DrawGoodCut a⟩
def a8 : Ann := As (Ai []) (As (Ai [b]) Aq)
noncomputable def f8 : Fn := ⟨[i, i, i], [b], fun a => Sh.impl_in a.1 a.2.1 a.2.2⟩
def a9 : Ann := As (Ai []) (As (Ai []) (As (As (Ai []) (Ab (some (1, [])) true (As (Ai [L (P i b), L (P i b), i]) (Al 1 [L (P i b), L (P i b), i] [(0, 1)] [[], [b]] (As (As (Ai []) (As (Ac none true Aq (As (Ai []) Aq)) (As (Ab (some (4, [L (P i b), L (P i b)])) true (As (As (Ai [P i (P i i)]) (As (Ai []) (As (As (Ai []) (Ab (some (6, [L (P i b), L (P i b), b])) false (As (As (Ai []) (Ac (some (6, [L (P i b), L (P i b), b])) false (As (Ai [b]) (Ai [L (P i b), L (P i b), b])) (As (As (Ai []) (Ac (some (6, [L (P i b), L (P i b), b])) false (As (As (Ai [b, b]) (Ai [L (P i b)])) (Ai [L (P i b), L (P i b), b])) (As (As (Ai []) (Ac (some (6, [L (P i b), b])) false (As (As (Ai [b, b]) (Ai [L (P i b)])) (Ai [L (P i b), b])) (As (Ai []) (Ai [L (P i b), b])))) (Ai [L (P i b), L (P i b), b])))) (Ai [L (P i b), L (P i b), b])))) (Ai [L (P i b), L (P i b), b])))) (As (Ai []) (Ac none true (As (Ai []) Aq) Aq))))) (Ai [L (P i b), L (P i b)]))) (Ai [])))) (Ai [L (P i b), L (P i b), i])))))) (As (Ai []) Aq)))
noncomputable def f9 : Fn := ⟨[L (P i (P i i))], [b], fun a => Sh.impl_areEvents a⟩
def a10 : Ann := As (Ai []) (As (Ai [L i]) (As (As (Ai []) (Ab (some (3, [L i])) false (As (Ai [i]) (Al 3 [i] [(0, 3)] [[L i]] (As (As (As (Ai []) (Ac none true Aq (As (Ai [L i]) Aq))) (As (Ab (some (4, [])) true (As (As (Ai []) (Ac none true (As (Ai [L i, L i]) (As (Ai [L i]) Aq)) Aq)) (Ai []))) (Ai []))) (Ai [i])))))) (As (As (Ai []) (Ab (some (4, [L i])) false (As (Ai [L i, i]) (Al 4 [L i, i] [(2, 4)] [[L i]] (As (As (Ai []) (As (Ac none true Aq (As (Ai [L i]) Aq)) (As (Ab (some (6, [L i])) false (As (As (Ai []) (As (Ai [b, b]) (Ac (some (8, [L i])) false (As (Ai [L i, L i]) (Ai [L i])) (As Aq (Ai [L i]))))) (Ai [L i]))) (Ai [])))) (Ai [L i, i])))))) (As (Ai []) Aq))))
noncomputable def f10 : Fn := ⟨[L (P i (P i i)), i], [L i], fun a => Sh.impl_causes a.1 a.2⟩
def a11 : Ann := As (Ai []) (As (As (Ai [b]) (Ac none true (As (Ai []) Aq) Aq)) (As (Ai [L i, L i]) (As (Ai [L b]) (As (As (Ai []) (Ab (some (7, [L i, L b])) false (As (Ai [L i, L b, i]) (Al 7 [L i, L b, i] [(0, 7)] [[L i, L b]] (As (As (Ai []) (As (Ac none true Aq (As (Ai [L i, L b]) Aq)) (As (Ab (some (10, [L i, L b])) false (As (As (Ai [P i (P i i)]) (As (Ai [L b, L b]) (Ai [L i]))) (Ai [L i, L b]))) (Ai [])))) (Ai [L i, L b, i])))))) (As (As (Ai []) (Ab (some (9, [])) true (As (Ai [i]) (Al 9 [i] [(2, 9)] [[], [b, b]] (As (As (Ai []) (As (Ac none true Aq (As (Ai []) Aq)) (As (Ab (some (10, [])) true (As (As (Ai []) (As (Ai []) (Ac none true (As (Ai []) Aq) Aq))) (Ai []))) (Ai [])))) (Ai [i])))))) (As (As (Ai []) (Ab (some (9, [])) true (As (Ai [i]) (Al 9 [i] [(4, 9)] [[], [b, b]] (As (As (Ai []) (As (Ac none true Aq (As (Ai []) Aq)) (As (Ab (some (10, [])) true (As (As (Ai []) (As (Ai []) (Ab (some (11, [])) true (As (Ai [i]) (Al 11 [i] [(6, 11)] [[], [b, b]] (As (As (Ai []) (As (Ac none true Aq (As (Ai []) Aq)) (As (Ab (some (12, [])) true (As (As (Ai []) (As (Ai [b]) (Ac none true (As (Ai []) Aq) Aq))) (Ai []))) (Ai [])))) (Ai [i]))))))) (Ai []))) (Ai [])))) (Ai [i])))))) (As (Ai []) Aq)))))))
noncomputable def f11 : Fn := ⟨[L (P i (P i i)), L i], [b, b], fun a => Sh.impl_GoodCut a.1 a.2⟩
def a12 : Ann := As (Ai []) (As (As (Ai []) (Ab (some (1, [])) true (As (Ai [i]) (Al 1 [i] [(0, 1)] [[], [b]] (As (As (Ai []) (As (Ac none true Aq (As (Ai []) Aq)) (As (Ab (some (2, [])) true (As (As (Ai [P i (P i i)]) (As (As (Ai [b]) (Ac none true (As (Ai []) Aq) Aq)) (As (As (Ai []) (Ac none true (As (As (Ai []) (Ac none true (As (Ai []) Aq) Aq)) (As (Ai []) Aq)) Aq)) (As (Ai []) (As (As (Ai []) (Ab (some (6, [b])) true (As (Ai [b, i]) (Al 6 [b, i] [(2, 6)] [[b], [b]] (As (As (Ai []) (As (Ac none true Aq (As (Ai [b]) Aq)) (As (Ab (some (8, [b])) true (As (As (Ai [P i (P i i)]) (As (As (Ai [b]) (Ac none true (As (Ai []) Aq) Aq)) (Ai [b, b]))) (Ai [b]))) (Ai [])))) (Ai [b, i])))))) (As (Ai [b, b]) (Ac none true (As (Ai []) Aq) Aq))))))) (Ai []))) (Ai [])))) (Ai [i])))))) (As (Ai []) Aq))
noncomputable def f12 : Fn := ⟨[L (P i (P i i))], [b], fun a => Sh.spec_GoodEvents a⟩
def a13 : Ann := As (Ai []) (As (As (Ai []) (Ac none true (As (Ai []) Aq) Aq)) (As (As (Ai []) (Ab (some (2, [])) true (As (Ai [i]) (Al 2 [i] [(0, 2)] [[], [b]] (As (As (Ai []) (As (Ac none true Aq (As (Ai []) Aq)) (As (Ab (some (3, [])) true (As (As (Ai []) (As (Ai []) (As (As (Ai []) (Ab (some (3, [i])) false (As (Ai [i, i]) (Al 3 [i, i] [(2, 3)] [[i]] (As (As (Ai []) (As (Ac none true Aq (As (Ai [i]) Aq)) (As (Ab (some (5, [i])) false (As (As (Ai [P i (P i i)]) (As (Ai []) (Ac (some (6, [i])) false (As (Ai []) (Ai [i])) (As Aq (Ai [i]))))) (Ai [i]))) (Ai [])))) (Ai [i, i])))))) (As (Ai []) (Ac none true (As (Ai []) Aq) Aq))))) (Ai []))) (Ai [])))) (Ai [i])))))) (As (Ai []) Aq)))
noncomputable def f13 : Fn := ⟨[L (P i (P i i)), L i], [b], fun a => Sh.spec_l2Cut a.1 a.2⟩
def a14 : Ann := As (Ai []) (As (Ai []) (As (As (Ai []) (Ab (some (2, [i])) false (As (Ai [i, i]) (Al 2 [i, i] [(0, 2)] [[i]] (As (As (Ai []) (As (Ac none true Aq (As (Ai [i]) Aq)) (As (Ab (some (4, [i])) false (As (As (Ai [P i (P i i)]) (As (Ai []) (Ac (some (5, [i])) false (As (Ai []) (Ai [i])) (As Aq (Ai [i]))))) (Ai [i]))) (Ai [])))) (Ai [i, i])))))) (As (Ai []) Aq)))
noncomputable def f14 : Fn := ⟨[L (P i (P i i)), i], [i], fun a => Sh.spec_l2Place a.1 a.2⟩
def a15 : Ann := As (Ai []) (As (Ai []) (As (Ai []) (As (As (Ai []) (Ab (some (2, [i, i])) false (As (Ai [i, i, i]) (Al 2 [i, i, i] [(0, 2)] [[i, i]] (As (As (Ai []) (As (Ac none true Aq (As (Ai [i, i]) Aq)) (As (Ab (some (5, [i, i])) false (As (As (Ai [P i (P i i)]) (As (As (Ai []) (Ac (some (6, [i])) false (As (Ai []) (Ai [i])) (As Aq (Ai [i])))) (As (Ai [b, b]) (Ac (some (9, [i])) false (As (Ai []) (Ai [i])) (As Aq (Ai [i])))))) (Ai [i, i]))) (Ai [])))) (Ai [i, i, i])))))) (As (Ai []) Aq))))
noncomputable def f15 : Fn := ⟨[L (P i (P i i)), i], [i, i], fun a => Sh.spec_l2Causes a.1 a.2⟩
def a16 : Ann := As (Ai []) (As (As (Ai [b]) (Ac none true (As (Ai []) Aq) Aq)) (As (As (Ai []) (Ab (some (5, [])) true (As (Ai [i]) (Al 5 [i] [(0, 5)] [[], [b, b]] (As (As (Ai []) (As (Ac none true Aq (As (Ai []) Aq)) (As (Ab (some (6, [])) true (As (As (Ai [P i (P i i)]) (As (As (Ai [b]) (Ac none true (As (Ai []) Aq) Aq)) (As (Ai []) (As (Ai []) (Ac none true (As (Ai []) Aq) Aq))))) (Ai []))) (Ai [])))) (Ai [i])))))) (As (Ai []) Aq)))
noncomputable def f16 : Fn := ⟨[L (P i (P i i)), L i], [b, b], fun a => Sh.spec_GoodCut a.1 a.2⟩
def a17 : Ann := As (Ai []) (As (Ai []) (As (As (Ai []) (Ab (some (1, [i])) false (As (Ai [i, i]) (Al 1 [i, i] [(0, 1)] [[i]] (As (As (Ai []) (As (Ac none true Aq (As (Ai [i]) Aq)) (As (Ab (some (3, [])) false (As (As (Ai []) (Ai [])) (Ai []))) (Ai [])))) (Ai [i, i])))))) (As (Ai []) Aq)))
noncomputable def f17 : Fn := ⟨[L i], [i], fun a => Sh.laws_numberOf a⟩
def a18 : Ann := As (Ai []) (As (Ai [L b]) (As (Ai [L b]) (As (As (Ai []) (Ab (some (4, [L b])) false (As (Ai [L b, i]) (Al 4 [L b, i] [(0, 4)] [[L b]] (As (As (As (Ai []) (Ac none true Aq (As (Ai [L b]) Aq))) (As (Ab (some (6, [L b])) false (As (As (As (Ai []) (Ac none true (As (Ai [L b]) Aq) Aq)) (As (Ai []) (As (As (Ai []) (Ac (some (8, [L b])) false (As (Ai [L b]) (Ai [L b])) (As Aq (Ai [L b])))) (As (Ai []) (Ac (some (9, [L b])) false (As (Ai [L b]) (Ai [L b])) (As Aq (Ai [L b]))))))) (Ai [L b]))) (Ai []))) (Ai [L b, i])))))) (As (Ai [L b]) (As (Ai []) Aq)))))
noncomputable def f18 : Fn := ⟨[L (P i (P i i)), i], [L b], fun a => Sh.spec_l2Before a.1 a.2⟩
def a19 : Ann := As (Ai []) (As (As (Ai [b, b]) (Ac none true (As (Ai []) Aq) Aq)) (As (Ai []) Aq))
noncomputable def f19 : Fn := ⟨[L (P i (P i i)), i, i], [b, b], fun a => Sh.spec_AheadOf a.1 a.2.1 a.2.2⟩
def a20 : Ann := As (Ai []) (As (Ai []) Aq)
noncomputable def f20 : Fn := ⟨[i], [b], fun a => Sh.impl_JoinCuts_1 a⟩
def a21 : Ann := As (Ai []) (As (As (Ai []) (Ab (some (1, [])) true (As (Ai [i]) (Al 1 [i] [(0, 1)] [[], [i]] (As (As (Ai []) (As (Ac none true Aq (As (Ai []) Aq)) (As (Ab (some (2, [])) true (As (As (Ai []) (As (Ai []) (Ac none true (As (Ai []) Aq) Aq))) (Ai []))) (Ai [])))) (Ai [i])))))) (As (Ai []) Aq))
noncomputable def f21 : Fn := ⟨[L i], [i], fun a => Sh.slices_IndexFunc__int_int''''' a⟩
def a22 : Ann := As (Ai []) (As (Ai []) Aq)
noncomputable def f22 : Fn := ⟨[L i], [b], fun a => Sh.slices_ContainsFunc__int_int''' a⟩
def a23 : Ann := As (Ai []) (As (Ai [L i]) (As (As (Ai []) (Ab (some (3, [L i])) false (As (Ai [L i, i]) (Al 3 [L i, i] [(0, 3)] [[L i]] (As (As (Ai []) (As (Ac none true Aq (As (Ai [L i]) Aq)) (As (Ab (some (5, [L i])) false (As (As (Ai []) (Ai [L i, L i])) (Ai [L i]))) (Ai [])))) (Ai [L i, i])))))) (As (Ai []) Aq)))
noncomputable def f23 : Fn := ⟨[L i, L i], [L i], fun a => Sh.impl_greater a.1 a.2⟩
def a24 : Ann := As (Ai []) (As (Ai []) (As (As (Ai [b, b, b]) (Ac none true (As (Ai []) Aq) Aq)) (As (As (Ai []) (Ac none true (As (Ai []) Aq) Aq)) (As (Ai [L i]) (As (As (Ai []) (Ab (some (9, [L i])) false (As (Ai [L i, i]) (Al 9 [L i, i] [(0, 9)] [[L i]] (As (As (Ai []) (As (Ac none true Aq (As (Ai [L i]) Aq)) (As (Ab (some (11, [L i])) false (As (As (Ai []) (Ai [L i, L i])) (Ai [L i]))) (Ai [])))) (Ai [L i, i])))))) (As (Ai []) Aq))))))
noncomputable def f24 : Fn := ⟨[L i, L i, b], [L i, b], fun a => Sh.impl_JoinCuts a.1 a.2.1 a.2.2⟩
def a25 : Ann := As (Ai []) (As (As (Ai [b]) (Ac none true (As (Ai []) Aq) Aq)) (As (Ai []) (As (As (Ai []) (Ab (some (4, [L i])) true (As (Ai [L i, i]) (Al 4 [L i, i] [(0, 4)] [[L i], [L i, b]] (As (As (Ai []) (As (Ac none true Aq (As (Ai [L i]) Aq)) (As (Ab (some (6, [L i])) true (As (As (Ai []) (As (As (Ai [b]) (Ac none true (As (Ai []) Aq) Aq)) (As (Ai []) (Ac (some (7, [L i])) false (As (Ai [L i, L i]) (Ai [L i])) (As (Ai [L i, L i]) (Ai [L i])))))) (Ai [L i]))) (Ai [])))) (Ai [L i, i])))))) (As (Ai []) Aq))))
noncomputable def f25 : Fn := ⟨[L i, L i, b], [L i, b], fun a => Sh.spec_JoinCuts a.1 a.2.1 a.2.2⟩
def a26 : Ann := As (Ai []) (As (As (Ai []) (Ac none true (As (Ai []) Aq) Aq)) (As (As (Ai []) (Ab (some (2, [])) true (As (Ai [i]) (Al 2 [i] [(0, 2)] [[], [b]] (As (As (Ai []) (As (Ac none true Aq (As (Ai []) Aq)) (As (Ab (some (3, [])) true (As (As (Ai []) (As (Ai []) (Ac none true (As (Ai []) Aq) Aq))) (Ai []))) (Ai [])))) (Ai [i])))))) (As (Ai []) Aq)))
noncomputable def f26 : Fn := ⟨[L i, L i], [b], fun a => Sh.laws_sameInts a.1 a.2⟩
def a27 : Ann := As (Ai []) (As (As (Ai []) (Ac none true (As (Ai []) Aq) Aq)) (As (Ai []) (As (Ai []) (As (Ai []) (As (As (Ai [b]) (Ac none true (As (Ai []) Aq) Aq)) (As (As (Ai []) (Ac none true (As (Ai []) Aq) Aq)) (As (Ai []) (As (As (Ai []) (Ac (some (9, [i])) false (As (Ai []) (Ai [i])) (As Aq (Ai [i])))) (As (Ai [L i]) (As (As (Ai []) (Ab (some (11, [L i])) false (As (Ai [L i, i]) (Al 11 [L i, i] [(0, 11)] [[L i]] (As (As (Ai []) (As (Ac none true Aq (As (Ai [L i]) Aq)) (As (Ab (some (13, [L i])) false (As (As (Ai [P i (P i i)]) (As (Ai []) (As (Ai [b]) (Ac (some (17, [L i])) false (As (Ai [L i]) (Ai [L i])) (As Aq (Ai [L i])))))) (Ai [L i]))) (Ai [])))) (Ai [L i, i])))))) (As (Ai []) (As (As (Ai [b]) (Ac none true (As (Ai []) Aq) Aq)) (As (As (Ai [L b]) (Ab (some (16, [])) true (As (Ai [i]) (Al 16 [i] [(2, 16)] [[], [b]] (As (As (Ai []) (As (Ac none true Aq (As (Ai []) Aq)) (As (Ab (some (17, [])) true (As (As (Ai []) (As (Ai []) (As (Ai []) (As (Ai []) (As (Ai [b, b, b, b, b]) (Ac none true (As (Ai []) Aq) Aq)))))) (Ai []))) (Ai [])))) (Ai [i])))))) (As (Ai []) Aq))))))))))))))
noncomputable def f27 : Fn := ⟨[L i, L i], [b], fun a => Sh.laws_FnCuts a.1 a.2⟩
noncomputable def fs : List Fn := [f0, f1, f2, f3, f4, f5, f6, f7, f8, f9, f10, f11, f12, f13, f14, f15, f16, f17, f18, f19, f20, f21, f22, f23, f24, f25, f26, f27]
theorem t0 : ∀ a, f0.f a = dnFn fs 0 p0 a0 f0.ins f0.outs a := by intro a; kernel_rfl
theorem t1 : ∀ a, f1.f a = dnFn fs 1 p1 a1 f1.ins f1.outs a := by intro a; kernel_rfl
theorem t2 : ∀ a, f2.f a = dnFn fs 2 p2 a2 f2.ins f2.outs a := by intro a; kernel_rfl
theorem t3 : ∀ a, f3.f a = dnFn fs 3 p3 a3 f3.ins f3.outs a := by intro a; kernel_rfl
theorem t4 : ∀ a, f4.f a = dnFn fs 4 p4 a4 f4.ins f4.outs a := by intro a; kernel_rfl
theorem t5 : ∀ a, f5.f a = dnFn fs 5 p5 a5 f5.ins f5.outs a := by intro a; kernel_rfl
theorem t6 : ∀ a, f6.f a = dnFn fs 6 p6 a6 f6.ins f6.outs a := by intro a; kernel_rfl
theorem t7 : ∀ a, f7.f a = dnFn fs 7 p7 a7 f7.ins f7.outs a := by intro a; kernel_rfl
theorem t8 : ∀ a, f8.f a = dnFn fs 8 p8 a8 f8.ins f8.outs a := by intro a; kernel_rfl
theorem t9 : ∀ a, f9.f a = dnFn fs 9 p9 a9 f9.ins f9.outs a := by intro a; kernel_rfl
theorem t10 : ∀ a, f10.f a = dnFn fs 10 p10 a10 f10.ins f10.outs a := by intro a; kernel_rfl
theorem t11 : ∀ a, f11.f a = dnFn fs 11 p11 a11 f11.ins f11.outs a := by intro a; kernel_rfl
theorem t12 : ∀ a, f12.f a = dnFn fs 12 p12 a12 f12.ins f12.outs a := by intro a; kernel_rfl
theorem t13 : ∀ a, f13.f a = dnFn fs 13 p13 a13 f13.ins f13.outs a := by intro a; kernel_rfl
theorem t14 : ∀ a, f14.f a = dnFn fs 14 p14 a14 f14.ins f14.outs a := by intro a; kernel_rfl
theorem t15 : ∀ a, f15.f a = dnFn fs 15 p15 a15 f15.ins f15.outs a := by intro a; kernel_rfl
theorem t16 : ∀ a, f16.f a = dnFn fs 16 p16 a16 f16.ins f16.outs a := by intro a; kernel_rfl
theorem t17 : ∀ a, f17.f a = dnFn fs 17 p17 a17 f17.ins f17.outs a := by intro a; kernel_rfl
theorem t18 : ∀ a, f18.f a = dnFn fs 18 p18 a18 f18.ins f18.outs a := by intro a; kernel_rfl
theorem t19 : ∀ a, f19.f a = dnFn fs 19 p19 a19 f19.ins f19.outs a := by intro a; kernel_rfl
theorem t20 : ∀ a, f20.f a = dnFn fs 20 p20 a20 f20.ins f20.outs a := by intro a; kernel_rfl
theorem t21 : ∀ a, f21.f a = dnFn fs 21 p21 a21 f21.ins f21.outs a := by intro a; kernel_rfl
theorem t22 : ∀ a, f22.f a = dnFn fs 22 p22 a22 f22.ins f22.outs a := by intro a; kernel_rfl
theorem t23 : ∀ a, f23.f a = dnFn fs 23 p23 a23 f23.ins f23.outs a := by intro a; kernel_rfl
theorem t24 : ∀ a, f24.f a = dnFn fs 24 p24 a24 f24.ins f24.outs a := by intro a; kernel_rfl
theorem t25 : ∀ a, f25.f a = dnFn fs 25 p25 a25 f25.ins f25.outs a := by intro a; kernel_rfl
theorem t26 : ∀ a, f26.f a = dnFn fs 26 p26 a26 f26.ins f26.outs a := by intro a; kernel_rfl
theorem t27 : ∀ a, f27.f a = dnFn fs 27 p27 a27 f27.ins f27.outs a := by intro a; kernel_rfl
theorem tf : ∀ j F, fs[j]? = some F → TfOk (sysOf ps) j F := all_tf (fs := fs) (ps := ps) (hs := [a0, a1, a2, a3, a4, a5, a6, a7, a8, a9, a10, a11, a12, a13, a14, a15, a16, a17, a18, a19, a20, a21, a22, a23, a24, a25, a26, a27]) ⟨t0, t1, t2, t3, t4, t5, t6, t7, t8, t9, t10, t11, t12, t13, t14, t15, t16, t17, t18, t19, t20, t21, t22, t23, t24, t25, t26, t27, trivial⟩
end Gp.Ytkemehjdfcpipaa
