/- Gp: the seat's typed functions; each is the reading of its pure program (checked by the kernel). -/
import Derived.Test.YtndojogdcmfjcaaDoorGpFFnCompact
import Derived.Test.YtndojogdcmfjcaaDoorGpSh4
import Derived.Test.YtndojogdcmfjcaaDoorShFnCompact
set_option maxRecDepth 100000
namespace Gp.YtndojogdcmfjcaaDoor
open Go Gp
abbrev As := @Ann.seq
abbrev Ai := @Ann.sis
abbrev Aq := @Ann.nil
abbrev Ac := @Ann.cond
abbrev Ab := @Ann.block
abbrev Al := @Ann.loop
abbrev i := Ty.int
abbrev b := Ty.bool
abbrev L := @Ty.list
abbrev P := @Ty.pair
abbrev S := Ty.str
def a0 : Ann := As (Ai []) (As (Ai []) (As (As (Ai []) (Ac (some (3, [i])) false (As (Ai []) (Ai [i])) (As Aq (Ai [i])))) (As (Ai []) (As (Ai []) (As (As (Ai []) (Ac none true (As (Ai []) Aq) Aq)) (As (Ai []) Aq))))))
noncomputable def f0 : Fn := ⟨[L i, i, i], [i, i, i], fun a => Sh.spec_l1Cur_next a.1 a.2.1 a.2.2⟩
def a1 : Ann := As (Ai []) (As (As (Ai []) (Ac none true (As (Ai []) Aq) Aq)) (As (Ai []) (As (As (Ai []) (Ac (some (7, [i, i, i])) false (As (Ai []) (Ai [i, i, i])) (As Aq (Ai [i, i, i])))) (As (Ai []) Aq))))
noncomputable def f1 : Fn := ⟨[L i, i, i, i], [i, i, i], fun a => Sh.spec_l1Cur_pick a.1 a.2.1 a.2.2.1 a.2.2.2⟩
def a2 : Ann := As (Ai []) (As (Ai []) Aq)
noncomputable def f2 : Fn := ⟨[L i, i, i, i], [i, i, b], fun a => Sh.spec_l1Cur_one a.1 a.2.1 a.2.2.1 a.2.2.2⟩
def a3 : Ann := As (Ai []) (As (Ai []) Aq)
noncomputable def f3 : Fn := ⟨[L i, i, i, L S], [i, i, S], fun a => Sh.spec_l1Cur_of a.1 a.2.1 a.2.2.1 a.2.2.2⟩
def a4 : Ann := As (Ai []) (As (As (Ai []) (Ac none true (As (Ai [L S]) Aq) Aq)) (As (Ai [L S]) Aq))
noncomputable def f4 : Fn := ⟨[L i, i, i], [i, i, S], fun a => Sh.spec_l1Cur_key a.1 a.2.1 a.2.2⟩
def a5 : Ann := As (Ai []) (As (As (Ai []) (Ac none true (As (Ai [L i, S]) Aq) Aq)) (As (Ai []) Aq))
noncomputable def f5 : Fn := ⟨[i], [S], fun a => Sh.spec_l1Num a⟩
def a6 : Ann := As (Ai []) (As (As (Ai []) (Ac none true (As (Ai [L i, S]) Aq) Aq)) (As (Ai [L i, S, S]) Aq))
noncomputable def f6 : Fn := ⟨[i], [S], fun a => Sh.spec_l1Num' a⟩
def a7 : Ann := As (Ai []) (As (As (Ai []) (Ac none true (As (Ai [L i, S]) Aq) Aq)) (As (Ai [L i, S, S]) Aq))
noncomputable def f7 : Fn := ⟨[i], [S], fun a => Sh.spec_l1Num'' a⟩
def a8 : Ann := As (Ai []) (As (As (Ai []) (Ac none true (As (Ai [L i, S]) Aq) Aq)) (As (Ai [L i, S, S]) Aq))
noncomputable def f8 : Fn := ⟨[i], [S], fun a => Sh.spec_l1Num''' a⟩
def a9 : Ann := As (Ai []) (As (Ai []) Aq)
noncomputable def f9 : Fn := ⟨[L i, i, i, L i], [i, i, i], fun a => Sh.spec_l1Cur_among a.1 a.2.1 a.2.2.1 a.2.2.2⟩
def a10 : Ann := As (Ai []) (As (Ai []) (As (As (Ai []) (Ab (some (15, [i, i, i, i])) false (As (As (Ai []) (Ac (some (15, [i, i, i, i])) false (As (Ai [L i]) (Ai [i, i, i, i])) (As (As (Ai []) (Ac (some (15, [i, i, i])) false (As (Ai [L i]) (Ai [i, i, i])) (As Aq (Ai [i, i, i])))) (Ai [i, i, i, i])))) (Ai [i, i, i, i])))) (As (Ai []) Aq)))
noncomputable def f10 : Fn := ⟨[L i, i, i], [i, i, i, i, b], fun a => Sh.spec_l1Cur_tid a.1 a.2.1 a.2.2⟩
def a11 : Ann := As (Ai []) (As (Ai []) (As (Ai []) (As (As (Ai []) (Ac (some (9, [i, i, i])) false (As (Ai []) (Ai [i, i, i])) (As Aq (Ai [i, i, i])))) (As (Ab (some (12, [i, i, L (P i (P S (P S (P i (P i b)))))])) false (As (Ai [i, i, L (P i (P S (P S (P i (P i b))))), i]) (Al 12 [i, i, L (P i (P S (P S (P i (P i b))))), i] [(0, 12)] [[i, i, L (P i (P S (P S (P i (P i b)))))]] (As (As (As (Ai []) (Ac none true Aq (As (Ai [i, i, L (P i (P S (P S (P i (P i b)))))]) Aq))) (As (Ab (some (16, [i, i, L (P i (P S (P S (P i (P i b)))))])) false (As (As (Ai []) (As (Ai [S, S]) (As (As (Ai []) (Ab (some (35, [i, i, S, i, i, b])) false (As (As (Ai []) (Ac (some (35, [i, i, S, i, i, b])) false (As (Ai []) (Ai [i, i, S, i, i, b])) (As (As (Ai []) (Ac (some (35, [i, i, i, i, b])) false (As (Ai []) (Ai [i, i, i, i, b])) (As Aq (Ai [i, i, i, i, b])))) (Ai [i, i, S, i, i, b])))) (Ai [i, i, S, i, i, b])))) (Ai [L (P i (P S (P S (P i (P i b))))), L (P i (P S (P S (P i (P i b)))))])))) (Ai [i, i, L (P i (P S (P S (P i (P i b)))))]))) (Ai []))) (Ai [i, i, L (P i (P S (P S (P i (P i b))))), i]))))) (As (Ai []) Aq)))))
noncomputable def f11 : Fn := ⟨[L i, i, i], [i, i, L (P i (P S (P S (P i (P i b)))))], fun a => Sh.spec_l1Cur_log a.1 a.2.1 a.2.2⟩
def a12 : Ann := As (Ai []) (As (Ai []) (As (Ai []) Aq))
noncomputable def f12 : Fn := ⟨[L i], [L (P i (P S (P S (P i (P i b))))), i], fun a => Sh.spec_DrawTruncateLog a⟩
def a13 : Ann := As (Ai []) (As (Ai [b]) Aq)
noncomputable def f13 : Fn := ⟨[i, i, i], [b], fun a => Sh.impl_in a.1 a.2.1 a.2.2⟩
def a14 : Ann := As (Ai []) Aq
noncomputable def f14 : Fn := ⟨[S, S], [S], fun a => Sh.strings_Trim a.1 a.2⟩
def a15 : Ann := As (Ai []) (As (Ai [b, b]) Aq)
noncomputable def f15 : Fn := ⟨[S], [b], fun a => Sh.impl_isKey a⟩
def a16 : Ann := As (Ai []) (As (As (Ai []) (Ab (some (1, [])) true (As (Ai [i]) (Al 1 [i] [(0, 1)] [[], [b]] (As (As (Ai []) (As (Ac none true Aq (As (Ai []) Aq)) (As (Ab (some (2, [])) true (As (As (Ai []) (As (Ai [b, b]) (Ac none true (As (Ai []) Aq) Aq))) (Ai []))) (Ai [])))) (Ai [i])))))) (As (Ai []) Aq))
noncomputable def f16 : Fn := ⟨[S], [b], fun a => Sh.impl_isValue a⟩
def a17 : Ann := As (Ai []) (As (Ai [b]) Aq)
noncomputable def f17 : Fn := ⟨[i, i, b], [b], fun a => Sh.impl_isTid a.1 a.2.1 a.2.2⟩
def a18 : Ann := As (Ai []) (As (Ai [b, b, b, b, b]) Aq)
noncomputable def f18 : Fn := ⟨[i, S, S, i, i, b], [b], fun a => Sh.impl_isEntry a.1 a.2.1 a.2.2.1 a.2.2.2.1 a.2.2.2.2.1 a.2.2.2.2.2⟩
def a19 : Ann := As (Ai []) (As (Ai []) Aq)
noncomputable def f19 : Fn := ⟨[i, S, S, i, i, b], [b], fun a => Sh.impl_isLog_1 a.1 a.2.1 a.2.2.1 a.2.2.2.1 a.2.2.2.2.1 a.2.2.2.2.2⟩
def a20 : Ann := As (Ai []) (As (As (Ai []) (Ab (some (1, [])) true (As (Ai [i]) (Al 1 [i] [(0, 1)] [[], [i]] (As (As (Ai []) (As (Ac none true Aq (As (Ai []) Aq)) (As (Ab (some (2, [])) true (As (As (Ai []) (As (Ai [P i (P S (P S (P i (P i b))))]) (Ac none true (As (Ai []) Aq) Aq))) (Ai []))) (Ai [])))) (Ai [i])))))) (As (Ai []) Aq))
noncomputable def f20 : Fn := ⟨[L (P i (P S (P S (P i (P i b)))))], [i], fun a => Sh.slices_IndexFunc__impl_Entry_impl_Entry a⟩
def a21 : Ann := As (Ai []) (As (Ai []) Aq)
noncomputable def f21 : Fn := ⟨[L (P i (P S (P S (P i (P i b)))))], [b], fun a => Sh.slices_ContainsFunc__impl_Entry_impl_Entry a⟩
def a22 : Ann := As (Ai []) (As (As (Ai []) (Ab (some (1, [])) true (As (Ai [i]) (Al 1 [i] [(0, 1)] [[], [b]] (As (As (Ai []) (As (Ac none true Aq (As (Ai []) Aq)) (As (Ab (some (2, [])) true (As (As (Ai [P i (P S (P S (P i (P i b))))]) (As (Ai []) (Ab (some (3, [])) true (As (Ai [i]) (Al 3 [i] [(2, 3)] [[], [b]] (As (As (Ai []) (As (Ac none true Aq (As (Ai []) Aq)) (As (Ab (some (4, [])) true (As (As (Ai [P i (P S (P S (P i (P i b))))]) (As (Ai [b, b]) (Ac none true (As (Ai []) Aq) Aq))) (Ai []))) (Ai [])))) (Ai [i]))))))) (Ai []))) (Ai [])))) (Ai [i])))))) (As (Ai []) Aq))
noncomputable def f22 : Fn := ⟨[L (P i (P S (P S (P i (P i b)))))], [b], fun a => Sh.impl_areAlike a⟩
def a23 : Ann := As (Ai []) (As (Ai [b, b]) Aq)
noncomputable def f23 : Fn := ⟨[L (P i (P S (P S (P i (P i b)))))], [b], fun a => Sh.impl_isLog a⟩
def a24 : Ann := As (Ai []) Aq
noncomputable def f24 : Fn := ⟨[S, S], [i], fun a => Sh.strings_Compare a.1 a.2⟩
def a25 : Ann := As (Ai []) (As (Ai []) Aq)
noncomputable def f25 : Fn := ⟨[i, S, S, i, i, b, S], [i], fun a => Sh.impl_compact_1 a.1 a.2.1 a.2.2.1 a.2.2.2.1 a.2.2.2.2.1 a.2.2.2.2.2.1 a.2.2.2.2.2.2⟩
def a26 : Ann := As (Ai []) (As (Ai []) (As (Ai []) (As (Ab (some (2, [i])) false (As (Ai [i, i]) (Al 2 [i, i] [(0, 2)] [[i]] (As (As (As (Ai []) (Ac none true Aq (As (Ai [i]) Aq))) (Ab (some (4, [i, i])) false (As (As (Ai []) (As (Ai [P i (P S (P S (P i (P i b))))]) (Ac (some (6, [i, i])) false (As (Ai []) (Ai [i, i])) (As (Ai []) (Ai [i, i]))))) (Ai [i, i])))) (Ai [i, i]))))) (As (Ai [P i (P S (P S (P i (P i b)))), b]) Aq))))
noncomputable def f26 : Fn := ⟨[L (P i (P S (P S (P i (P i b))))), S], [i, b], fun a => Sh.slices_BinarySearchFunc__impl_Entry_impl_Entry_string a.1 a.2⟩
def a27 : Ann := As (Ai []) Aq
noncomputable def f27 : Fn := ⟨[L (P i (P S (P S (P i (P i b))))), i, L (P i (P S (P S (P i (P i b)))))], [L (P i (P S (P S (P i (P i b)))))], fun a => Sh.slices_Insert__impl_Entry_impl_Entry a.1 a.2.1 a.2.2⟩
def a28 : Ann := As (Ai []) (As (Ai []) Aq)
noncomputable def f28 : Fn := ⟨[i], [b], fun a => Sh.cmp_isNaN_int a⟩
def a29 : Ann := As (Ai []) (As (Ai []) (As (Ai []) (As (As (Ai []) (Ac none true (As (As (Ai []) (Ac none true (As (Ai []) Aq) Aq)) (As (Ai []) Aq)) Aq)) (As (As (Ai []) (Ac none true (As (Ai []) Aq) Aq)) (As (As (Ai []) (Ac none true (As (Ai []) Aq) Aq)) (As (As (Ai []) (Ac none true (As (Ai []) Aq) Aq)) (As (Ai []) Aq)))))))
noncomputable def f29 : Fn := ⟨[i, i], [i], fun a => Sh.cmp_Compare_int a.1 a.2⟩
def a30 : Ann := As (Ai []) (As (Ai []) (As (As (Ai []) (Ab (some (1, [])) true (As (Ai [i]) (Al 1 [i] [(0, 1)] [[], [i]] (As (As (Ai []) (As (Ac none true Aq (As (Ai []) Aq)) (As (Ab (some (2, [])) true (As (As (Ai []) (As (Ai []) (Ac none true (As (Ai []) Aq) Aq))) (Ai []))) (Ai [])))) (Ai [i])))))) (As (Ai []) Aq)))
noncomputable def f30 : Fn := ⟨[L i], [i], fun a => Sh.cmp_Or_int a⟩
def a31 : Ann := As (Ai []) (As (Ai [L i]) Aq)
noncomputable def f31 : Fn := ⟨[i, i, b, i, i, b], [i], fun a => Sh.impl_compareTid a.1 a.2.1 a.2.2.1 a.2.2.2.1 a.2.2.2.2.1 a.2.2.2.2.2⟩
def a32 : Ann := As (Ai []) (As (Ai [L (P i (P S (P S (P i (P i b)))))]) (As (As (Ai []) (Ab (some (2, [L (P i (P S (P S (P i (P i b)))))])) false (As (Ai [L (P i (P S (P S (P i (P i b))))), i]) (Al 2 [L (P i (P S (P S (P i (P i b))))), i] [(0, 2)] [[L (P i (P S (P S (P i (P i b)))))]] (As (As (Ai []) (As (Ac none true Aq (As (Ai [L (P i (P S (P S (P i (P i b)))))]) Aq)) (As (Ab (some (4, [L (P i (P S (P S (P i (P i b)))))])) false (As (As (Ai [P i (P S (P S (P i (P i b))))]) (As (Ai []) (As (Ai []) (Ac (some (7, [L (P i (P S (P S (P i (P i b)))))])) false (As (Ai [L (P i (P S (P S (P i (P i b)))))]) (Ai [L (P i (P S (P S (P i (P i b)))))])) (As (As (Ai [P i (P S (P S (P i (P i b))))]) (Ac (some (9, [L (P i (P S (P S (P i (P i b)))))])) false (As (Ai [L (P i (P S (P S (P i (P i b)))))]) (Ai [L (P i (P S (P S (P i (P i b)))))])) (As Aq (Ai [L (P i (P S (P S (P i (P i b)))))])))) (Ai [L (P i (P S (P S (P i (P i b)))))])))))) (Ai [L (P i (P S (P S (P i (P i b)))))]))) (Ai [])))) (Ai [L (P i (P S (P S (P i (P i b))))), i])))))) (As (Ai []) Aq)))
noncomputable def f32 : Fn := ⟨[L (P i (P S (P S (P i (P i b)))))], [L (P i (P S (P S (P i (P i b)))))], fun a => Sh.impl_compact a⟩
def a33 : Ann := As (Ai []) (As (As (Ai [b]) (Ac none true (As (Ai []) Aq) Aq)) (As (Ai [L (P i (P S (P S (P i (P i b))))), L (P i (P S (P S (P i (P i b)))))]) (As (As (Ai []) (Ab (some (7, [L (P i (P S (P S (P i (P i b))))), L (P i (P S (P S (P i (P i b)))))])) false (As (Ai [L (P i (P S (P S (P i (P i b))))), L (P i (P S (P S (P i (P i b))))), i]) (Al 7 [L (P i (P S (P S (P i (P i b))))), L (P i (P S (P S (P i (P i b))))), i] [(0, 7)] [[L (P i (P S (P S (P i (P i b))))), L (P i (P S (P S (P i (P i b)))))]] (As (As (Ai []) (As (Ac none true Aq (As (Ai [L (P i (P S (P S (P i (P i b))))), L (P i (P S (P S (P i (P i b)))))]) Aq)) (As (Ab (some (10, [L (P i (P S (P S (P i (P i b))))), L (P i (P S (P S (P i (P i b)))))])) false (As (As (Ai [P i (P S (P S (P i (P i b))))]) (As (Ai []) (Ac (some (11, [L (P i (P S (P S (P i (P i b))))), L (P i (P S (P S (P i (P i b)))))])) false (As (Ai [L (P i (P S (P S (P i (P i b))))), L (P i (P S (P S (P i (P i b)))))]) (Ai [L (P i (P S (P S (P i (P i b))))), L (P i (P S (P S (P i (P i b)))))])) (As (Ai [L (P i (P S (P S (P i (P i b))))), L (P i (P S (P S (P i (P i b)))))]) (Ai [L (P i (P S (P S (P i (P i b))))), L (P i (P S (P S (P i (P i b)))))]))))) (Ai [L (P i (P S (P S (P i (P i b))))), L (P i (P S (P S (P i (P i b)))))]))) (Ai [])))) (Ai [L (P i (P S (P S (P i (P i b))))), L (P i (P S (P S (P i (P i b))))), i])))))) (As (Ai []) Aq))))
noncomputable def f33 : Fn := ⟨[L (P i (P S (P S (P i (P i b))))), i], [L (P i (P S (P S (P i (P i b))))), L (P i (P S (P S (P i (P i b))))), b], fun a => Sh.impl_TruncateLog a.1 a.2⟩
def a34 : Ann := As (Ai []) (As (Ai [b]) Aq)
noncomputable def f34 : Fn := ⟨[i, i, i], [b], fun a => Sh.spec_l1In a.1 a.2.1 a.2.2⟩
def a35 : Ann := As (Ai []) (As (As (Ai []) (Ab (some (1, [])) true (As (Ai [i]) (Al 1 [i] [(0, 1)] [[], [b]] (As (As (As (Ai []) (Ac none true Aq (As (Ai []) Aq))) (As (Ab (some (2, [])) true (As (As (Ai []) (As (Ai [b, b, b]) (Ac none true (As (Ai []) Aq) Aq))) (Ai []))) (Ai []))) (Ai [i])))))) (As (Ai []) Aq))
noncomputable def f35 : Fn := ⟨[S], [b], fun a => Sh.spec_l1Key a⟩
def a36 : Ann := As (Ai []) (As (As (Ai []) (Ab (some (1, [])) true (As (Ai [i]) (Al 1 [i] [(0, 1)] [[], [b]] (As (As (As (Ai []) (Ac none true Aq (As (Ai []) Aq))) (As (Ab (some (2, [])) true (As (As (Ai [b, b]) (Ac none true (As (Ai []) Aq) Aq)) (Ai []))) (Ai []))) (Ai [i])))))) (As (Ai []) Aq))
noncomputable def f36 : Fn := ⟨[S], [b], fun a => Sh.spec_l1Value a⟩
def a37 : Ann := As (Ai []) (As (Ai [b]) Aq)
noncomputable def f37 : Fn := ⟨[i, i, b], [b], fun a => Sh.spec_l1Tid a.1 a.2.1 a.2.2⟩
def a38 : Ann := As (Ai []) (As (Ai [b, b, b, b, b]) Aq)
noncomputable def f38 : Fn := ⟨[i, S, S, i, i, b], [b], fun a => Sh.spec_l6Entry a.1 a.2.1 a.2.2.1 a.2.2.2.1 a.2.2.2.2.1 a.2.2.2.2.2⟩
def a39 : Ann := As (Ai []) (As (As (Ai []) (Ab (some (1, [])) true (As (Ai [i]) (Al 1 [i] [(0, 1)] [[], [b]] (As (As (Ai []) (As (Ac none true Aq (As (Ai []) Aq)) (As (Ab (some (2, [])) true (As (As (Ai [P i (P S (P S (P i (P i b))))]) (As (As (Ai []) (Ac none true (As (Ai []) Aq) Aq)) (As (Ai []) (Ab (some (4, [])) true (As (Ai [i]) (Al 4 [i] [(2, 4)] [[], [b]] (As (As (Ai []) (As (Ac none true Aq (As (Ai []) Aq)) (As (Ab (some (5, [])) true (As (As (Ai [P i (P S (P S (P i (P i b))))]) (As (Ai [b, b]) (Ac none true (As (Ai []) Aq) Aq))) (Ai []))) (Ai [])))) (Ai [i])))))))) (Ai []))) (Ai [])))) (Ai [i])))))) (As (Ai []) Aq))
noncomputable def f39 : Fn := ⟨[L (P i (P S (P S (P i (P i b)))))], [b], fun a => Sh.spec_GoodLog a⟩
def a40 : Ann := As (Ai []) (As (As (Ai []) (Ab (some (3, [])) true (As (Ai [i]) (Al 3 [i] [(0, 3)] [[], [S, S, i, i, b, i, b]] (As (As (Ai []) (As (Ac none true Aq (As (Ai []) Aq)) (As (Ab (some (4, [])) true (As (As (Ai [P S (P S (P i (P i (P b i))))]) (As (Ai []) (Ac none true (As (Ai []) Aq) Aq))) (Ai []))) (Ai [])))) (Ai [i])))))) (As (Ai []) Aq))
noncomputable def f40 : Fn := ⟨[i, L (P S (P S (P i (P i (P b i))))), S], [S, S, i, i, b, i, b], fun a => Sh.spec_l5Find a.1 a.2.1 a.2.2⟩
def a41 : Ann := As (Ai []) (As (Ab (some (6, [])) true (As (As (Ai [b, b]) (Ac none true (As (Ai []) Aq) (As (Ai [b]) (Ac none true (As (Ai []) Aq) Aq)))) (Ai []))) (As (Ai []) Aq))
noncomputable def f41 : Fn := ⟨[i, i, b, i, i, b], [i], fun a => Sh.spec_l1Compare a.1 a.2.1 a.2.2.1 a.2.2.2.1 a.2.2.2.2.1 a.2.2.2.2.2⟩
def a42 : Ann := As (Ai []) (As (Ai []) (As (Ab (some (8, [i])) false (As (Ai [i]) (Al 8 [i] [(0, 8)] [[i]] (As (As (As (Ai [b]) (Ac none true Aq (As (Ai [i]) Aq))) (Ab (some (10, [])) false (As (Ai []) (Ai [])))) (Ai [i]))))) (As (Ai []) (As (Ai [L (P S (P S (P i (P i (P b i)))))]) (As (Ai [L (P S (P S (P i (P i (P b i))))), L (P S (P S (P i (P i (P b i)))))]) (As (As (Ai [b]) (Ac (some (13, [i])) false (As (Ai []) (Ai [i])) (As Aq (Ai [i])))) (As (Ai [L (P S (P S (P i (P i (P b i)))))]) (As (Ai []) Aq))))))))
noncomputable def f42 : Fn := ⟨[i, L (P S (P S (P i (P i (P b i))))), S, S, i, i, b, i], [i, L (P S (P S (P i (P i (P b i)))))], fun a => Sh.spec_l5Put a.1 a.2.1 a.2.2.1 a.2.2.2.1 a.2.2.2.2.1 a.2.2.2.2.2.1 a.2.2.2.2.2.2.1 a.2.2.2.2.2.2.2⟩
def a43 : Ann := As (Ai []) (As (Ai []) (As (As (Ai []) (Ab (some (1, [i, L (P S (P S (P i (P i (P b i)))))])) false (As (Ai [i, L (P S (P S (P i (P i (P b i))))), i]) (Al 1 [i, L (P S (P S (P i (P i (P b i))))), i] [(0, 1)] [[i, L (P S (P S (P i (P i (P b i)))))]] (As (As (Ai []) (As (Ac none true Aq (As (Ai [i, L (P S (P S (P i (P i (P b i)))))]) Aq)) (As (Ab (some (4, [i, L (P S (P S (P i (P i (P b i)))))])) false (As (As (Ai [P i (P S (P S (P i (P i b))))]) (As (Ai []) (As (Ai [b]) (Ac (some (14, [i, L (P S (P S (P i (P i (P b i)))))])) false (As (Ai []) (Ai [i, L (P S (P S (P i (P i (P b i)))))])) (As Aq (Ai [i, L (P S (P S (P i (P i (P b i)))))])))))) (Ai [i, L (P S (P S (P i (P i (P b i)))))]))) (Ai [])))) (Ai [i, L (P S (P S (P i (P i (P b i))))), i])))))) (As (Ai []) Aq)))
noncomputable def f43 : Fn := ⟨[L (P i (P S (P S (P i (P i b)))))], [L (P S (P S (P i (P i (P b i)))))], fun a => Sh.spec_l6Replay a⟩
def a44 : Ann := As (Ai []) (As (Ai []) (As (As (Ai []) (Ab (some (2, [L (P i (P S (P S (P i (P i b)))))])) false (As (Ai [L (P i (P S (P S (P i (P i b))))), i]) (Al 2 [L (P i (P S (P S (P i (P i b))))), i] [(0, 2)] [[L (P i (P S (P S (P i (P i b)))))]] (As (As (Ai []) (As (Ac none true Aq (As (Ai [L (P i (P S (P S (P i (P i b)))))]) Aq)) (As (Ab (some (4, [L (P i (P S (P S (P i (P i b)))))])) false (As (As (Ai [P S (P S (P i (P i (P b i))))]) (As (Ai []) (Ab (some (5, [L (P i (P S (P S (P i (P i b)))))])) false (As (Ai [i]) (Al 5 [i] [(2, 5)] [[L (P i (P S (P S (P i (P i b)))))]] (As (As (Ai []) (As (Ac none true Aq (As (Ai [L (P i (P S (P S (P i (P i b)))))]) Aq)) (As (Ab (some (6, [])) true (As (As (Ai [P i (P S (P S (P i (P i b))))]) (As (Ai [b]) (Ac none true (As (Ai [L (P i (P S (P S (P i (P i b))))), L (P i (P S (P S (P i (P i b)))))]) (As (Ai [L (P i (P S (P S (P i (P i b)))))]) Aq)) Aq))) (Ai []))) (Ai [])))) (Ai [i]))))))) (Ai [L (P i (P S (P S (P i (P i b)))))]))) (Ai [])))) (Ai [L (P i (P S (P S (P i (P i b))))), i])))))) (As (Ai []) Aq)))
noncomputable def f44 : Fn := ⟨[L (P i (P S (P S (P i (P i b)))))], [L (P i (P S (P S (P i (P i b)))))], fun a => Sh.spec_l6Compact a⟩
def a45 : Ann := As (Ai []) (As (As (Ai [b]) (Ac none true (As (Ai []) Aq) Aq)) (As (Ai []) (As (As (Ai []) (Ab (some (5, [L (P i (P S (P S (P i (P i b))))), L (P i (P S (P S (P i (P i b)))))])) false (As (Ai [L (P i (P S (P S (P i (P i b))))), L (P i (P S (P S (P i (P i b))))), i]) (Al 5 [L (P i (P S (P S (P i (P i b))))), L (P i (P S (P S (P i (P i b))))), i] [(0, 5)] [[L (P i (P S (P S (P i (P i b))))), L (P i (P S (P S (P i (P i b)))))]] (As (As (Ai []) (As (Ac none true Aq (As (Ai [L (P i (P S (P S (P i (P i b))))), L (P i (P S (P S (P i (P i b)))))]) Aq)) (As (Ab (some (8, [L (P i (P S (P S (P i (P i b))))), L (P i (P S (P S (P i (P i b)))))])) false (As (As (Ai [P i (P S (P S (P i (P i b))))]) (As (Ai []) (Ac (some (9, [L (P i (P S (P S (P i (P i b))))), L (P i (P S (P S (P i (P i b)))))])) false (As (Ai [L (P i (P S (P S (P i (P i b))))), L (P i (P S (P S (P i (P i b)))))]) (Ai [L (P i (P S (P S (P i (P i b))))), L (P i (P S (P S (P i (P i b)))))])) (As (Ai [L (P i (P S (P S (P i (P i b))))), L (P i (P S (P S (P i (P i b)))))]) (Ai [L (P i (P S (P S (P i (P i b))))), L (P i (P S (P S (P i (P i b)))))]))))) (Ai [L (P i (P S (P S (P i (P i b))))), L (P i (P S (P S (P i (P i b)))))]))) (Ai [])))) (Ai [L (P i (P S (P S (P i (P i b))))), L (P i (P S (P S (P i (P i b))))), i])))))) (As (Ai []) Aq))))
noncomputable def f45 : Fn := ⟨[L (P i (P S (P S (P i (P i b))))), i], [L (P i (P S (P S (P i (P i b))))), L (P i (P S (P S (P i (P i b))))), b], fun a => Sh.spec_TruncateLog a.1 a.2⟩
def a46 : Ann := As (Ai []) (As (As (Ai []) (Ac none true (As (Ai []) Aq) Aq)) (As (Ai [L (P S (P S (P i (P i (P b i)))))]) (As (As (Ai []) (Ab (some (4, [L (P S (P S (P i (P i (P b i)))))])) false (As (Ai [L (P S (P S (P i (P i (P b i))))), i]) (Al 4 [L (P S (P S (P i (P i (P b i))))), i] [(0, 4)] [[L (P S (P S (P i (P i (P b i)))))]] (As (As (Ai []) (As (Ac none true Aq (As (Ai [L (P S (P S (P i (P i (P b i)))))]) Aq)) (As (Ab (some (6, [L (P S (P S (P i (P i (P b i)))))])) false (As (As (Ai [P i (P S (P S (P i (P i b))))]) (Ai [L (P S (P S (P i (P i (P b i))))), L (P S (P S (P i (P i (P b i)))))])) (Ai [L (P S (P S (P i (P i (P b i)))))]))) (Ai [])))) (Ai [L (P S (P S (P i (P i (P b i))))), i])))))) (As (Ai []) Aq))))
noncomputable def f46 : Fn := ⟨[L (P i (P S (P S (P i (P i b)))))], [L (P S (P S (P i (P i (P b i))))), b], fun a => Sh.impl_ReplayLog a⟩
def a47 : Ann := As (Ai []) (As (As (Ai []) (Ac none true (As (Ai []) Aq) Aq)) (As (Ai []) Aq))
noncomputable def f47 : Fn := ⟨[L (P i (P S (P S (P i (P i b)))))], [L (P i (P S (P S (P i (P i b))))), b], fun a => Sh.impl_CompactLog a⟩
def a48 : Ann := As (Ai []) (As (As (Ai []) (Ac none true (As (Ai []) Aq) Aq)) (As (As (Ai []) (Ab (some (2, [])) true (As (Ai [i]) (Al 2 [i] [(0, 2)] [[], [b]] (As (As (Ai []) (As (Ac none true Aq (As (Ai []) Aq)) (As (Ab (some (3, [])) true (As (As (Ai []) (As (Ai [P S (P S (P i (P i (P b i)))), P S (P S (P i (P i (P b i))))]) (Ac none true (As (Ai []) Aq) Aq))) (Ai []))) (Ai [])))) (Ai [i])))))) (As (Ai []) Aq)))
noncomputable def f48 : Fn := ⟨[L (P S (P S (P i (P i (P b i))))), L (P S (P S (P i (P i (P b i)))))], [b], fun a => Sh.laws_sameRecords a.1 a.2⟩
def a49 : Ann := As (Ai []) (As (Ai []) (As (Ai []) Aq))
noncomputable def f49 : Fn := ⟨[L i], [L (P i (P S (P S (P i (P i b))))), L (P i (P S (P S (P i (P i b)))))], fun a => Sh.spec_DrawMergeLogs a⟩
def a50 : Ann := As (Ai []) (As (Ai [b]) Aq)
noncomputable def f50 : Fn := ⟨[i, S, S, i, i, b, i, S, S, i, i, b], [b], fun a => Sh.impl_MergeLogs_1 a.1 a.2.1 a.2.2.1 a.2.2.2.1 a.2.2.2.2.1 a.2.2.2.2.2.1 a.2.2.2.2.2.2.1 a.2.2.2.2.2.2.2.1 a.2.2.2.2.2.2.2.2.1 a.2.2.2.2.2.2.2.2.2.1 a.2.2.2.2.2.2.2.2.2.2.1 a.2.2.2.2.2.2.2.2.2.2.2⟩
def a51 : Ann := As (Ai []) (As (As (Ai []) (Ab (some (7, [])) true (As (Ai [i]) (Al 7 [i] [(0, 7)] [[], [i]] (As (As (Ai []) (As (Ac none true Aq (As (Ai []) Aq)) (As (Ab (some (8, [])) true (As (As (Ai []) (As (Ai [P i (P S (P S (P i (P i b))))]) (Ac none true (As (Ai []) Aq) Aq))) (Ai []))) (Ai [])))) (Ai [i])))))) (As (Ai []) Aq))
noncomputable def f51 : Fn := ⟨[L (P i (P S (P S (P i (P i b))))), i, S, S, i, i, b], [i], fun a => Sh.slices_IndexFunc__impl_Entry_impl_Entry' a.1 a.2.1 a.2.2.1 a.2.2.2.1 a.2.2.2.2.1 a.2.2.2.2.2.1 a.2.2.2.2.2.2⟩
def a52 : Ann := As (Ai []) (As (Ai []) Aq)
noncomputable def f52 : Fn := ⟨[L (P i (P S (P S (P i (P i b))))), i, S, S, i, i, b], [b], fun a => Sh.slices_ContainsFunc__impl_Entry_impl_Entry' a.1 a.2.1 a.2.2.1 a.2.2.2.1 a.2.2.2.2.1 a.2.2.2.2.2.1 a.2.2.2.2.2.2⟩
def a53 : Ann := As (Ai []) (As (As (Ai [b, L (P i (P S (P S (P i (P i b))))), L (P i (P S (P S (P i (P i b))))), L (P i (P S (P S (P i (P i b))))), b]) (Ac none true (As (Ai []) Aq) Aq)) (As (Ai [L (P i (P S (P S (P i (P i b))))), L (P i (P S (P S (P i (P i b)))))]) (As (As (Ai []) (Ab (some (12, [L (P i (P S (P S (P i (P i b)))))])) false (As (Ai [L (P i (P S (P S (P i (P i b))))), i]) (Al 12 [L (P i (P S (P S (P i (P i b))))), i] [(0, 12)] [[L (P i (P S (P S (P i (P i b)))))]] (As (As (Ai []) (As (Ac none true Aq (As (Ai [L (P i (P S (P S (P i (P i b)))))]) Aq)) (As (Ab (some (14, [L (P i (P S (P S (P i (P i b)))))])) false (As (As (Ai [P i (P S (P S (P i (P i b))))]) (As (Ai []) (Ac (some (16, [L (P i (P S (P S (P i (P i b)))))])) false (As (Ai [L (P i (P S (P S (P i (P i b))))), L (P i (P S (P S (P i (P i b)))))]) (Ai [L (P i (P S (P S (P i (P i b)))))])) (As Aq (Ai [L (P i (P S (P S (P i (P i b)))))]))))) (Ai [L (P i (P S (P S (P i (P i b)))))]))) (Ai [])))) (Ai [L (P i (P S (P S (P i (P i b))))), i])))))) (As (As (Ai []) (Ac none true (As (Ai []) Aq) Aq)) (As (Ai []) Aq)))))
noncomputable def f53 : Fn := ⟨[L (P i (P S (P S (P i (P i b))))), L (P i (P S (P S (P i (P i b)))))], [L (P i (P S (P S (P i (P i b))))), b], fun a => Sh.impl_MergeLogs a.1 a.2⟩
def a54 : Ann := As (Ai []) (As (As (Ai [b]) (Ac none true (As (Ai []) Aq) Aq)) (As (Ai [L (P i (P S (P S (P i (P i b))))), L (P i (P S (P S (P i (P i b)))))]) (As (As (Ai []) (Ab (some (7, [L (P i (P S (P S (P i (P i b)))))])) true (As (Ai [L (P i (P S (P S (P i (P i b))))), i]) (Al 7 [L (P i (P S (P S (P i (P i b))))), i] [(0, 7)] [[L (P i (P S (P S (P i (P i b)))))], [L (P i (P S (P S (P i (P i b))))), b]] (As (As (Ai []) (As (Ac none true Aq (As (Ai [L (P i (P S (P S (P i (P i b)))))]) Aq)) (As (Ab (some (9, [L (P i (P S (P S (P i (P i b)))))])) true (As (As (Ai [P i (P S (P S (P i (P i b))))]) (As (Ai []) (As (As (Ai []) (Ab (some (10, [b])) true (As (Ai [b, i]) (Al 10 [b, i] [(2, 10)] [[b], [L (P i (P S (P S (P i (P i b))))), b]] (As (As (Ai []) (As (Ac none true Aq (As (Ai [b]) Aq)) (As (Ab (some (12, [b])) true (As (As (Ai [P i (P S (P S (P i (P i b))))]) (As (Ai [b]) (Ac (some (14, [b])) true (As (As (Ai []) (As (Ai []) (Ac none true (As (Ai []) Aq) Aq))) (Ai [b])) (As Aq (Ai [b]))))) (Ai [b]))) (Ai [])))) (Ai [b, i])))))) (As (Ai []) (Ac (some (11, [L (P i (P S (P S (P i (P i b)))))])) false (As (Ai [L (P i (P S (P S (P i (P i b))))), L (P i (P S (P S (P i (P i b)))))]) (Ai [L (P i (P S (P S (P i (P i b)))))])) (As Aq (Ai [L (P i (P S (P S (P i (P i b)))))]))))))) (Ai [L (P i (P S (P S (P i (P i b)))))]))) (Ai [])))) (Ai [L (P i (P S (P S (P i (P i b))))), i])))))) (As (As (Ai []) (Ac none true (As (Ai []) Aq) Aq)) (As (Ai []) Aq)))))
noncomputable def f54 : Fn := ⟨[L (P i (P S (P S (P i (P i b))))), L (P i (P S (P S (P i (P i b)))))], [L (P i (P S (P S (P i (P i b))))), b], fun a => Sh.spec_MergeLogs a.1 a.2⟩
def a55 : Ann := As (Ai []) (As (As (Ai []) (Ac none true (As (Ai []) Aq) Aq)) (As (Ai []) (As (Ai []) (As (Ai []) (As (As (Ai [b, b]) (Ac none true (As (Ai []) Aq) Aq)) (As (As (Ai []) (Ac (some (12, [])) true (As (As (Ai []) (As (Ai [L (P i (P S (P S (P i (P i b))))), L (P i (P S (P S (P i (P i b))))), L (P i (P S (P S (P i (P i b)))))]) (As (Ai []) (As (Ai []) (As (Ai [b, b, b, b, b, b]) (Ac none true (As (Ai []) Aq) Aq)))))) (Ai [])) (As Aq (Ai [])))) (As (Ai []) (As (Ai []) (As (Ai []) (As (Ai []) (As (As (Ai []) (Ac none true (As (Ai []) Aq) Aq)) (As (As (Ai [b]) (Ac none true (As (Ai [b]) Aq) Aq)) (As (Ai []) (As (Ai []) (As (Ai [b, b]) Aq)))))))))))))))
noncomputable def f55 : Fn := ⟨[L i, L i], [b], fun a => Sh.laws_FnCompact a.1 a.2⟩
noncomputable def fs : List Fn := [f0, f1, f2, f3, f4, f5, f6, f7, f8, f9, f10, f11, f12, f13, f14, f15, f16, f17, f18, f19, f20, f21, f22, f23, f24, f25, f26, f27, f28, f29, f30, f31, f32, f33, f34, f35, f36, f37, f38, f39, f40, f41, f42, f43, f44, f45, f46, f47, f48, f49, f50, f51, f52, f53, f54, f55]
theorem t0 : ∀ a, f0.f a = dnFn fs 0 p0 a0 f0.ins f0.outs a := by intro a; kernel_rfl
theorem t1 : ∀ a, f1.f a = dnFn fs 1 p1 a1 f1.ins f1.outs a := by intro a; kernel_rfl
theorem t2 : ∀ a, f2.f a = dnFn fs 2 p2 a2 f2.ins f2.outs a := by intro a; kernel_rfl
theorem t3 : ∀ a, f3.f a = dnFn fs 3 p3 a3 f3.ins f3.outs a := by intro a; kernel_rfl
theorem t4 : ∀ a, f4.f a = dnFn fs 4 p4 a4 f4.ins f4.outs a := by intro a; kernel_rfl
theorem t5 : ∀ a, f5.f a = dnFn fs 5 p5 a5 f5.ins f5.outs a := by intro a; kernel_rfl
theorem t6 : ∀ a, f6.f a = dnFn fs 6 p6 a6 f6.ins f6.outs a := by intro a; kernel_rfl
theorem t7 : ∀ a, f7.f a = dnFn fs 7 p7 a7 f7.ins f7.outs a := by intro a; kernel_rfl
theorem t8 : ∀ a, f8.f a = dnFn fs 8 p8 a8 f8.ins f8.outs a := by intro a; kernel_rfl
theorem t9 : ∀ a, f9.f a = dnFn fs 9 p9 a9 f9.ins f9.outs a := by intro a; kernel_rfl
theorem t10 : ∀ a, f10.f a = dnFn fs 10 p10 a10 f10.ins f10.outs a := by intro a; kernel_rfl
theorem t11 : ∀ a, f11.f a = dnFn fs 11 p11 a11 f11.ins f11.outs a := by intro a; kernel_rfl
theorem t12 : ∀ a, f12.f a = dnFn fs 12 p12 a12 f12.ins f12.outs a := by intro a; kernel_rfl
theorem t13 : ∀ a, f13.f a = dnFn fs 13 p13 a13 f13.ins f13.outs a := by intro a; kernel_rfl
theorem t14 : ∀ a, f14.f a = dnFn fs 14 p14 a14 f14.ins f14.outs a := by intro a; kernel_rfl
theorem t15 : ∀ a, f15.f a = dnFn fs 15 p15 a15 f15.ins f15.outs a := by intro a; kernel_rfl
theorem t16 : ∀ a, f16.f a = dnFn fs 16 p16 a16 f16.ins f16.outs a := by intro a; kernel_rfl
theorem t17 : ∀ a, f17.f a = dnFn fs 17 p17 a17 f17.ins f17.outs a := by intro a; kernel_rfl
theorem t18 : ∀ a, f18.f a = dnFn fs 18 p18 a18 f18.ins f18.outs a := by intro a; kernel_rfl
theorem t19 : ∀ a, f19.f a = dnFn fs 19 p19 a19 f19.ins f19.outs a := by intro a; kernel_rfl
theorem t20 : ∀ a, f20.f a = dnFn fs 20 p20 a20 f20.ins f20.outs a := by intro a; kernel_rfl
theorem t21 : ∀ a, f21.f a = dnFn fs 21 p21 a21 f21.ins f21.outs a := by intro a; kernel_rfl
theorem t22 : ∀ a, f22.f a = dnFn fs 22 p22 a22 f22.ins f22.outs a := by intro a; kernel_rfl
theorem t23 : ∀ a, f23.f a = dnFn fs 23 p23 a23 f23.ins f23.outs a := by intro a; kernel_rfl
theorem t24 : ∀ a, f24.f a = dnFn fs 24 p24 a24 f24.ins f24.outs a := by intro a; kernel_rfl
theorem t25 : ∀ a, f25.f a = dnFn fs 25 p25 a25 f25.ins f25.outs a := by intro a; kernel_rfl
theorem t26 : ∀ a, f26.f a = dnFn fs 26 p26 a26 f26.ins f26.outs a := by intro a; kernel_rfl
theorem t27 : ∀ a, f27.f a = dnFn fs 27 p27 a27 f27.ins f27.outs a := by intro a; kernel_rfl
theorem t28 : ∀ a, f28.f a = dnFn fs 28 p28 a28 f28.ins f28.outs a := by intro a; kernel_rfl
theorem t29 : ∀ a, f29.f a = dnFn fs 29 p29 a29 f29.ins f29.outs a := by intro a; kernel_rfl
theorem t30 : ∀ a, f30.f a = dnFn fs 30 p30 a30 f30.ins f30.outs a := by intro a; kernel_rfl
theorem t31 : ∀ a, f31.f a = dnFn fs 31 p31 a31 f31.ins f31.outs a := by intro a; kernel_rfl
theorem t32 : ∀ a, f32.f a = dnFn fs 32 p32 a32 f32.ins f32.outs a := by intro a; kernel_rfl
theorem t33 : ∀ a, f33.f a = dnFn fs 33 p33 a33 f33.ins f33.outs a := by intro a; kernel_rfl
theorem t34 : ∀ a, f34.f a = dnFn fs 34 p34 a34 f34.ins f34.outs a := by intro a; kernel_rfl
theorem t35 : ∀ a, f35.f a = dnFn fs 35 p35 a35 f35.ins f35.outs a := by intro a; kernel_rfl
theorem t36 : ∀ a, f36.f a = dnFn fs 36 p36 a36 f36.ins f36.outs a := by intro a; kernel_rfl
theorem t37 : ∀ a, f37.f a = dnFn fs 37 p37 a37 f37.ins f37.outs a := by intro a; kernel_rfl
theorem t38 : ∀ a, f38.f a = dnFn fs 38 p38 a38 f38.ins f38.outs a := by intro a; kernel_rfl
theorem t39 : ∀ a, f39.f a = dnFn fs 39 p39 a39 f39.ins f39.outs a := by intro a; kernel_rfl
theorem t40 : ∀ a, f40.f a = dnFn fs 40 p40 a40 f40.ins f40.outs a := by intro a; kernel_rfl
theorem t41 : ∀ a, f41.f a = dnFn fs 41 p41 a41 f41.ins f41.outs a := by intro a; kernel_rfl
theorem t42 : ∀ a, f42.f a = dnFn fs 42 p42 a42 f42.ins f42.outs a := by intro a; kernel_rfl
theorem t43 : ∀ a, f43.f a = dnFn fs 43 p43 a43 f43.ins f43.outs a := by intro a; kernel_rfl
theorem t44 : ∀ a, f44.f a = dnFn fs 44 p44 a44 f44.ins f44.outs a := by intro a; kernel_rfl
theorem t45 : ∀ a, f45.f a = dnFn fs 45 p45 a45 f45.ins f45.outs a := by intro a; kernel_rfl
theorem t46 : ∀ a, f46.f a = dnFn fs 46 p46 a46 f46.ins f46.outs a := by intro a; kernel_rfl
theorem t47 : ∀ a, f47.f a = dnFn fs 47 p47 a47 f47.ins f47.outs a := by intro a; kernel_rfl
theorem t48 : ∀ a, f48.f a = dnFn fs 48 p48 a48 f48.ins f48.outs a := by intro a; kernel_rfl
theorem t49 : ∀ a, f49.f a = dnFn fs 49 p49 a49 f49.ins f49.outs a := by intro a; kernel_rfl
theorem t50 : ∀ a, f50.f a = dnFn fs 50 p50 a50 f50.ins f50.outs a := by intro a; kernel_rfl
theorem t51 : ∀ a, f51.f a = dnFn fs 51 p51 a51 f51.ins f51.outs a := by intro a; kernel_rfl
theorem t52 : ∀ a, f52.f a = dnFn fs 52 p52 a52 f52.ins f52.outs a := by intro a; kernel_rfl
theorem t53 : ∀ a, f53.f a = dnFn fs 53 p53 a53 f53.ins f53.outs a := by intro a; kernel_rfl
theorem t54 : ∀ a, f54.f a = dnFn fs 54 p54 a54 f54.ins f54.outs a := by intro a; kernel_rfl
theorem t55 : ∀ a, f55.f a = dnFn fs 55 p55 a55 f55.ins f55.outs a := by intro a; kernel_rfl
theorem tf : ∀ j F, fs[j]? = some F → TfOk (sysOf ps) j F := all_tf (fs := fs) (ps := ps) (hs := [a0, a1, a2, a3, a4, a5, a6, a7, a8, a9, a10, a11, a12, a13, a14, a15, a16, a17, a18, a19, a20, a21, a22, a23, a24, a25, a26, a27, a28, a29, a30, a31, a32, a33, a34, a35, a36, a37, a38, a39, a40, a41, a42, a43, a44, a45, a46, a47, a48, a49, a50, a51, a52, a53, a54, a55]) ⟨t0, t1, t2, t3, t4, t5, t6, t7, t8, t9, t10, t11, t12, t13, t14, t15, t16, t17, t18, t19, t20, t21, t22, t23, t24, t25, t26, t27, t28, t29, t30, t31, t32, t33, t34, t35, t36, t37, t38, t39, t40, t41, t42, t43, t44, t45, t46, t47, t48, t49, t50, t51, t52, t53, t54, t55, trivial⟩
end Gp.YtndojogdcmfjcaaDoor
