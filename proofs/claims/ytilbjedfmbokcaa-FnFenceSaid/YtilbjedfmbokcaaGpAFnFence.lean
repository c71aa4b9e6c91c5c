/- Gp: the seat's typed functions; each is the reading of its pure program (checked by the kernel). -/
import Derived.Test.YtilbjedfmbokcaaGpFFnFence
import Derived.Test.YtilbjedfmbokcaaGpSh4
import Derived.Test.YtilbjedfmbokcaaShFnFence
set_option maxRecDepth 100000
namespace Gp.Ytilbjedfmbokcaa
open Go Gp
abbrev As := @Ann.seq
abbrev Ai := @Ann.sis
abbrev Aq := @Ann.nil
abbrev Ac := @Ann.cond
abbrev Ab := @Ann.block
abbrev Al := @Ann.loop
abbrev i := Ty.int
abbrev b := Ty.bool
abbrev L := @Ty.list
abbrev P := @Ty.pair
abbrev S := Ty.str
def a0 : Ann := As (Ai []) (As (Ai []) (As (As (Ai []) (Ac (some (3, [i])) false (As (Ai []) (Ai [i])) (As Aq (Ai [i])))) (As (Ai []) (As (Ai []) (As (As (Ai []) (Ac none true (As (Ai []) Aq) Aq)) (As (Ai []) Aq))))))
noncomputable def f0 : Fn := ⟨[L i, i, i], [i, i, i], fun a => Sh.spec_l1Cur_next a.1 a.2.1 a.2.2⟩
def a1 : Ann := As (Ai []) (As (As (Ai []) (Ac none true (As (Ai []) Aq) Aq)) (As (Ai []) (As (As (Ai []) (Ac (some (7, [i, i, i])) false (As (Ai []) (Ai [i, i, i])) (As Aq (Ai [i, i, i])))) (As (Ai []) Aq))))
noncomputable def f1 : Fn := ⟨[L i, i, i, i], [i, i, i], fun a => Sh.spec_l1Cur_pick a.1 a.2.1 a.2.2.1 a.2.2.2⟩
def a2 : Ann := As (Ai []) (As (Ai []) Aq)
noncomputable def f2 : Fn := ⟨[L i, i, i, i], [i, i, b], fun a => Sh.spec_l1Cur_one a.1 a.2.1 a.2.2.1 a.2.2.2⟩
def a3 : Ann := As (Ai []) (As (Ai []) Aq)
noncomputable def f3 : Fn := ⟨[L i, i, i, L i], [i, i, i], fun a => Sh.spec_l1Cur_among a.1 a.2.1 a.2.2.1 a.2.2.2⟩
def a4 : Ann := As (Ai []) (As (Ai []) (As (Ai []) (As (As (Ai []) (Ac (some (10, [i, i, i])) false (As (Ai []) (Ai [i, i, i])) (As Aq (Ai [i, i, i])))) (As (Ab (some (13, [i, i, L (P i (P i i))])) false (As (Ai [i, i, L (P i (P i i)), i]) (Al 13 [i, i, L (P i (P i i)), i] [(0, 13)] [[i, i, L (P i (P i i))]] (As (As (As (Ai []) (Ac none true Aq (As (Ai [i, i, L (P i (P i i))]) Aq))) (As (Ab (some (17, [i, i, L (P i (P i i))])) false (As (As (Ai [L i, L (P i (P i i)), L (P i (P i i))]) (As (Ai []) (Ab (some (32, [i, i, L (P i (P i i))])) false (As (As (Ai []) (Ac (some (32, [i, i, L (P i (P i i))])) false (As (Ai [L (P i (P i i))]) (Ai [i, i, L (P i (P i i))])) (As (As (Ai []) (Ac (some (32, [i, i, L (P i (P i i))])) false (As (Ai [L (P i (P i i))]) (Ai [i, i, L (P i (P i i))])) (As Aq (Ai [i, i, L (P i (P i i))])))) (Ai [i, i, L (P i (P i i))])))) (Ai [i, i, L (P i (P i i))]))))) (Ai [i, i, L (P i (P i i))]))) (Ai []))) (Ai [i, i, L (P i (P i i)), i]))))) (As (Ai []) Aq)))))
noncomputable def f4 : Fn := ⟨[L i, i, i, i], [i, i, L (P i (P i i))], fun a => Sh.spec_l1Cur_fenceSteps a.1 a.2.1 a.2.2.1 a.2.2.2⟩
def a5 : Ann := As (Ai []) (As (Ai []) (As (Ai []) (As (Ai []) Aq)))
noncomputable def f5 : Fn := ⟨[L i], [i, L (P i (P i i))], fun a => Sh.spec_DrawPlayFence a⟩
def a6 : Ann := As (Ai []) (As (Ai [b]) Aq)
noncomputable def f6 : Fn := ⟨[i, i, i], [b], fun a => Sh.impl_in a.1 a.2.1 a.2.2⟩
def a7 : Ann := As (Ai []) (As (Ai []) (As (As (Ai []) (Ab (some (1, [L (P i (P i (P (L i) i)))])) false (As (Ai [L (P i (P i (P (L i) i))), i]) (Al 1 [L (P i (P i (P (L i) i))), i] [(0, 1)] [[L (P i (P i (P (L i) i)))]] (As (As (Ai []) (As (Ac none true Aq (As (Ai [L (P i (P i (P (L i) i)))]) Aq)) (As (Ab (some (3, [L (P i (P i (P (L i) i)))])) false (As (As (Ai []) (Ai [L (P i (P i (P (L i) i))), L (P i (P i (P (L i) i)))])) (Ai [L (P i (P i (P (L i) i)))]))) (Ai [])))) (Ai [L (P i (P i (P (L i) i))), i])))))) (As (Ai []) Aq)))
noncomputable def f7 : Fn := ⟨[i], [i, i, L (P i (P i (P (L i) i)))], fun a => Sh.impl_newFence a⟩
def a8 : Ann := As (Ai []) (As (Ai [L i, L i]) (As (As (Ai []) (Ab (some (6, [L (P i (P i (P (L i) i)))])) false (As (Ai [L (P i (P i (P (L i) i))), i]) (Al 6 [L (P i (P i (P (L i) i))), i] [(0, 6)] [[L (P i (P i (P (L i) i)))]] (As (As (Ai []) (As (Ac none true Aq (As (Ai [L (P i (P i (P (L i) i)))]) Aq)) (As (Ab (some (8, [L (P i (P i (P (L i) i)))])) false (As (As (Ai [P i (P i (P (L i) i))]) (As (Ai [L i, L i]) (Ai [L (P i (P i (P (L i) i))), L (P i (P i (P (L i) i)))]))) (Ai [L (P i (P i (P (L i) i)))]))) (Ai [])))) (Ai [L (P i (P i (P (L i) i))), i])))))) (As (Ai []) Aq)))
noncomputable def f8 : Fn := ⟨[i, i, L (P i (P i (P (L i) i))), L i], [i, i, L (P i (P i (P (L i) i))), L i], fun a => Sh.impl_copyFence a.1 a.2.1 a.2.2.1 a.2.2.2⟩
def a9 : Ann := As (Ai []) (As (Ai []) Aq)
noncomputable def f9 : Fn := ⟨[i, i, L i, i, i, i, L (P i (P i (P (L i) i))), L i], [b], fun a => Sh.impl_Fence_do_1 a.1 a.2.1 a.2.2.1 a.2.2.2.1 a.2.2.2.2.1 a.2.2.2.2.2.1 a.2.2.2.2.2.2.1 a.2.2.2.2.2.2.2⟩
def a10 : Ann := As (Ai []) (As (As (Ai []) (Ab (some (5, [])) true (As (Ai [i]) (Al 5 [i] [(0, 5)] [[], [i]] (As (As (Ai []) (As (Ac none true Aq (As (Ai []) Aq)) (As (Ab (some (6, [])) true (As (As (Ai []) (As (Ai [P i (P i (P (L i) i))]) (Ac none true (As (Ai []) Aq) Aq))) (Ai []))) (Ai [])))) (Ai [i])))))) (As (Ai []) Aq))
noncomputable def f10 : Fn := ⟨[L (P i (P i (P (L i) i))), i, i, L (P i (P i (P (L i) i))), L i], [i], fun a => Sh.slices_IndexFunc__impl_Member_impl_Member a.1 a.2.1 a.2.2.1 a.2.2.2.1 a.2.2.2.2⟩
def a11 : Ann := As (Ai []) (As (Ai []) Aq)
noncomputable def f11 : Fn := ⟨[L (P i (P i (P (L i) i))), i, i, L (P i (P i (P (L i) i))), L i], [b], fun a => Sh.slices_ContainsFunc__impl_Member_impl_Member a.1 a.2.1 a.2.2.1 a.2.2.2.1 a.2.2.2.2⟩
def a12 : Ann := As (Ai []) (As (Ai []) Aq)
noncomputable def f12 : Fn := ⟨[i, i, L i, i, i, i, i], [b], fun a => Sh.impl_Fence_do_2 a.1 a.2.1 a.2.2.1 a.2.2.2.1 a.2.2.2.2.1 a.2.2.2.2.2.1 a.2.2.2.2.2.2⟩
def a13 : Ann := As (Ai []) (As (As (Ai []) (Ab (some (4, [])) true (As (Ai [i]) (Al 4 [i] [(0, 4)] [[], [i]] (As (As (Ai []) (As (Ac none true Aq (As (Ai []) Aq)) (As (Ab (some (5, [])) true (As (As (Ai []) (As (Ai [P i (P i (P (L i) i))]) (Ac none true (As (Ai []) Aq) Aq))) (Ai []))) (Ai [])))) (Ai [i])))))) (As (Ai []) Aq))
noncomputable def f13 : Fn := ⟨[L (P i (P i (P (L i) i))), i, i, i], [i], fun a => Sh.slices_IndexFunc__impl_Member_impl_Member' a.1 a.2.1 a.2.2.1 a.2.2.2⟩
def a14 : Ann := As (Ai []) Aq
noncomputable def f14 : Fn := ⟨[L i, i, i], [L i], fun a => Sh.slices_Delete__int_int a.1 a.2.1 a.2.2⟩
def a15 : Ann := As (Ai []) (As (Ai []) Aq)
noncomputable def f15 : Fn := ⟨[i, L (P i (P i (P (L i) i))), i], [b], fun a => Sh.impl_Fence_do_3 a.1 a.2.1 a.2.2⟩
def a16 : Ann := As (Ai []) (As (As (Ai []) (Ab (some (3, [])) true (As (Ai [i]) (Al 3 [i] [(0, 3)] [[], [i]] (As (As (Ai []) (As (Ac none true Aq (As (Ai []) Aq)) (As (Ab (some (4, [])) true (As (As (Ai []) (As (Ai []) (Ac none true (As (Ai []) Aq) Aq))) (Ai []))) (Ai [])))) (Ai [i])))))) (As (Ai []) Aq))
noncomputable def f16 : Fn := ⟨[L i, L (P i (P i (P (L i) i))), i], [i], fun a => Sh.slices_IndexFunc__int_int''''''' a.1 a.2.1 a.2.2⟩
def a17 : Ann := As (Ai []) (As (Ai []) Aq)
noncomputable def f17 : Fn := ⟨[L i, L (P i (P i (P (L i) i))), i], [b], fun a => Sh.slices_ContainsFunc__int_int'''' a.1 a.2.1 a.2.2⟩
def a18 : Ann := As (Ai []) Aq
noncomputable def f18 : Fn := ⟨[L (P i (P i (P (L i) i))), i, i], [L (P i (P i (P (L i) i)))], fun a => Sh.slices_Delete__impl_Member_impl_Member a.1 a.2.1 a.2.2⟩
def a19 : Ann := As (Ai []) (As (As (Ai []) (Ac none true (As (As (Ai []) (Ac none true (As (Ai []) Aq) Aq)) (As (Ai []) (As (Ai []) (As (Ai []) Aq)))) Aq)) (As (Ai []) (As (As (Ai []) (Ac none true (As (Ai []) Aq) Aq)) (As (Ai []) (As (As (Ai []) (Ab (some (8, [])) true (As (As (Ai []) (Ac none true (As (Ai []) (As (As (Ai []) (Ab (some (8, [i])) false (As (Ai [i, i]) (Al 8 [i, i] [(1, 8)] [[i]] (As (As (Ai []) (As (Ac none true Aq (As (Ai [i]) Aq)) (As (Ab (some (10, [i])) false (As (As (Ai [P i (P i (P (L i) i))]) (Ai [])) (Ai [i]))) (Ai [])))) (Ai [i, i])))))) (As (Ai [L i, L (P i (P i (P (L i) i))), L i, L i, L (P i (P i (P (L i) i)))]) (As (Ai []) Aq)))) (As (Ai []) (Ac none true (As (As (Ai []) (Ac none true (As (Ai []) Aq) Aq)) (As (Ai [L i, L i]) (As (Ai [L (P i (P i (P (L i) i))), L i, L (P i (P i (P (L i) i)))]) (As (Ai []) Aq)))) (As (Ai []) (Ac none true (As (As (Ai [b, b]) (Ac none true (As (Ai []) Aq) Aq)) (As (Ai [L (P i (P i (P (L i) i)))]) (As (Ai []) Aq))) (As (Ai []) (Ac none true (As (Ai []) (As (Ai []) Aq)) (As (Ai []) (Ac none true (As (As (Ai []) (Ac none true (As (Ai []) Aq) Aq)) (As (Ai [L (P i (P i (P (L i) i)))]) (As (Ai []) Aq))) Aq)))))))))) (Ai [])))) (As (Ai []) Aq))))))
noncomputable def f19 : Fn := ⟨[i, i, L (P i (P i (P (L i) i))), L i, i, i, i], [i, i, L (P i (P i (P (L i) i))), L i, b], fun a => Sh.impl_Fence_do a.1 a.2.1 a.2.2.1 a.2.2.2.1 a.2.2.2.2.1 a.2.2.2.2.2.1 a.2.2.2.2.2.2⟩
def a20 : Ann := As (Ai []) (As (Ai []) Aq)
noncomputable def f20 : Fn := ⟨[i, i, i, L (P i (P i (P (L i) i))), L i], [b], fun a => Sh.impl_isFence_1 a.1 a.2.1 a.2.2.1 a.2.2.2.1 a.2.2.2.2⟩
def a21 : Ann := As (Ai []) (As (As (Ai []) (Ab (some (5, [])) true (As (Ai [i]) (Al 5 [i] [(0, 5)] [[], [i]] (As (As (Ai []) (As (Ac none true Aq (As (Ai []) Aq)) (As (Ab (some (6, [])) true (As (As (Ai []) (As (Ai []) (Ac none true (As (Ai []) Aq) Aq))) (Ai []))) (Ai [])))) (Ai [i])))))) (As (Ai []) Aq))
noncomputable def f21 : Fn := ⟨[L i, i, i, L (P i (P i (P (L i) i))), L i], [i], fun a => Sh.slices_IndexFunc__int_int'''''''' a.1 a.2.1 a.2.2.1 a.2.2.2.1 a.2.2.2.2⟩
def a22 : Ann := As (Ai []) (As (Ai []) Aq)
noncomputable def f22 : Fn := ⟨[L i, i, i, L (P i (P i (P (L i) i))), L i], [b], fun a => Sh.slices_ContainsFunc__int_int''''' a.1 a.2.1 a.2.2.1 a.2.2.2.1 a.2.2.2.2⟩
def a23 : Ann := As (Ai []) (As (As (Ai [b, b, b]) (Ac none true (As (Ai []) Aq) Aq)) (As (As (Ai []) (Ab (some (10, [])) true (As (Ai [i]) (Al 10 [i] [(0, 10)] [[], [b]] (As (As (Ai []) (As (Ac none true Aq (As (Ai []) Aq)) (As (Ab (some (11, [])) true (As (As (Ai [P i (P i (P (L i) i))]) (As (As (Ai [b, b, b, b, b]) (Ac none true (As (Ai []) Aq) Aq)) (As (Ai []) (As (Ai []) (Ab (some (20, [])) true (As (Ai [L i, i, i]) (Al 20 [L i, i, i] [(2, 20)] [[], [b]] (As (As (Ai []) (As (Ac none true Aq (As (Ai []) Aq)) (As (Ab (some (23, [])) true (As (As (Ai []) (As (As (Ai []) (Ac none true (As (Ai []) Aq) Aq)) (Ai []))) (Ai []))) (Ai [])))) (Ai [L i, i, i]))))))))) (Ai []))) (Ai [])))) (Ai [i])))))) (As (Ai []) Aq)))
noncomputable def f23 : Fn := ⟨[i, i, L (P i (P i (P (L i) i))), L i], [b], fun a => Sh.impl_isFence a.1 a.2.1 a.2.2.1 a.2.2.2⟩
def a24 : Ann := As (Ai []) (As (Ai []) (As (As (Ai [b]) (Ac none true (As (Ai []) Aq) Aq)) (As (Ai []) Aq)))
noncomputable def f24 : Fn := ⟨[i, i, L (P i (P i (P (L i) i))), L i, i, i, i], [i, i, L (P i (P i (P (L i) i))), L i, b], fun a => Sh.impl_Fence_step a.1 a.2.1 a.2.2.1 a.2.2.2.1 a.2.2.2.2.1 a.2.2.2.2.2.1 a.2.2.2.2.2.2⟩
def a25 : Ann := As (Ai []) (As (As (Ai [b]) (Ac none true (As (Ai []) Aq) Aq)) (As (Ai []) (As (Ai [L i]) (As (As (Ai []) (Ab (some (8, [i, i, L (P i (P i (P (L i) i))), L i, L i])) false (As (Ai [i, i, L (P i (P i (P (L i) i))), L i, L i, i]) (Al 8 [i, i, L (P i (P i (P (L i) i))), L i, L i, i] [(0, 8)] [[i, i, L (P i (P i (P (L i) i))), L i, L i]] (As (As (Ai []) (As (Ac none true Aq (As (Ai [i, i, L (P i (P i (P (L i) i))), L i, L i]) Aq)) (As (Ab (some (14, [i, i, L (P i (P i (P (L i) i))), L i, L i])) false (As (As (Ai [P i (P i i)]) (As (As (Ai []) (As (Ai []) (Ac (some (20, [i, i, L (P i (P i (P (L i) i))), L i])) false (As (Ai []) (Ai [i, i, L (P i (P i (P (L i) i))), L i])) (As Aq (Ai [i, i, L (P i (P i (P (L i) i))), L i]))))) (Ai [L i, L i]))) (Ai [i, i, L (P i (P i (P (L i) i))), L i, L i]))) (Ai [])))) (Ai [i, i, L (P i (P i (P (L i) i))), L i, L i, i])))))) (As (Ai []) Aq)))))
noncomputable def f25 : Fn := ⟨[i, L (P i (P i i))], [i, i, L (P i (P i (P (L i) i))), L i, L i, b], fun a => Sh.impl_PlayFence a.1 a.2⟩
def a26 : Ann := As (Ai []) (As (Ai [b]) Aq)
noncomputable def f26 : Fn := ⟨[i, i, i], [b], fun a => Sh.spec_l1In a.1 a.2.1 a.2.2⟩
def a27 : Ann := As (Ai []) (As (As (Ai []) (Ac none true (As (Ai []) Aq) Aq)) (As (Ai []) (As (As (Ai []) (Ab (some (2, [L (P i (P i (P (L i) i)))])) false (As (Ai [L (P i (P i (P (L i) i))), i]) (Al 2 [L (P i (P i (P (L i) i))), i] [(0, 2)] [[L (P i (P i (P (L i) i)))]] (As (As (As (Ai []) (Ac none true Aq (As (Ai [L (P i (P i (P (L i) i)))]) Aq))) (As (Ab (some (4, [L (P i (P i (P (L i) i)))])) false (As (Ai [L (P i (P i (P (L i) i))), L (P i (P i (P (L i) i)))]) (Ai [L (P i (P i (P (L i) i)))]))) (Ai []))) (Ai [L (P i (P i (P (L i) i))), i])))))) (As (Ai []) Aq))))
noncomputable def f27 : Fn := ⟨[i], [i, i, L (P i (P i (P (L i) i))), b], fun a => Sh.spec_NewFence a⟩
def a28 : Ann := As (Ai []) (As (Ai []) (As (As (Ai []) (Ab (some (4, [L (P i (P i (P (L i) i)))])) false (As (Ai [L (P i (P i (P (L i) i))), i]) (Al 4 [L (P i (P i (P (L i) i))), i] [(0, 4)] [[L (P i (P i (P (L i) i)))]] (As (As (Ai []) (As (Ac none true Aq (As (Ai [L (P i (P i (P (L i) i)))]) Aq)) (As (Ab (some (6, [L (P i (P i (P (L i) i)))])) false (As (As (Ai [P i (P i (P (L i) i))]) (As (Ai [L i, L i]) (Ai [L (P i (P i (P (L i) i))), L (P i (P i (P (L i) i)))]))) (Ai [L (P i (P i (P (L i) i)))]))) (Ai [])))) (Ai [L (P i (P i (P (L i) i))), i])))))) (As (Ai []) (As (Ai [L i, L i]) (As (Ai []) Aq)))))
noncomputable def f28 : Fn := ⟨[i, i, L (P i (P i (P (L i) i))), L i], [i, i, L (P i (P i (P (L i) i))), L i], fun a => Sh.spec_l12Own a.1 a.2.1 a.2.2.1 a.2.2.2⟩
def a29 : Ann := As (Ai []) (As (As (Ai [b, b]) (Ac none true (As (Ai []) Aq) Aq)) (As (As (Ai []) (Ab (some (6, [])) true (As (Ai [i]) (Al 6 [i] [(0, 6)] [[], [i, i, b]] (As (As (Ai []) (As (Ac none true Aq (As (Ai []) Aq)) (As (Ab (some (7, [])) true (As (As (Ai [P i (P i (P (L i) i))]) (As (Ai [b]) (Ac none true (As (Ai []) Aq) Aq))) (Ai []))) (Ai [])))) (Ai [i])))))) (As (Ai []) (As (Ai []) (As (Ai []) Aq)))))
noncomputable def f29 : Fn := ⟨[i, i, L (P i (P i (P (L i) i))), L i], [i, i, b], fun a => Sh.spec_l12Advance a.1 a.2.1 a.2.2.1 a.2.2.2⟩
def a30 : Ann := As (Ai []) (As (As (Ai []) (Ab (some (5, [])) true (As (Ai [i]) (Al 5 [i] [(0, 5)] [[], [i]] (As (As (Ai []) (As (Ac none true Aq (As (Ai []) Aq)) (As (Ab (some (6, [])) true (As (As (Ai [P i (P i (P (L i) i))]) (As (Ai []) (Ac none true (As (Ai []) Aq) Aq))) (Ai []))) (Ai [])))) (Ai [i])))))) (As (Ai []) Aq))
noncomputable def f30 : Fn := ⟨[i, i, L (P i (P i (P (L i) i))), L i, i], [i], fun a => Sh.spec_l12At a.1 a.2.1 a.2.2.1 a.2.2.2.1 a.2.2.2.2⟩
def a31 : Ann := As (Ai []) (As (Ai []) (As (As (Ai []) (Ab (some (4, [i])) false (As (Ai [i, i]) (Al 4 [i, i] [(0, 4)] [[i]] (As (As (Ai []) (As (Ac none true Aq (As (Ai [i]) Aq)) (As (Ab (some (6, [i])) false (As (As (Ai [P i (P i (P (L i) i))]) (Ai [])) (Ai [i]))) (Ai [])))) (Ai [i, i])))))) (As (Ai []) Aq)))
noncomputable def f31 : Fn := ⟨[i, i, L (P i (P i (P (L i) i))), L i], [i], fun a => Sh.spec_l12Running a.1 a.2.1 a.2.2.1 a.2.2.2⟩
def a32 : Ann := As (Ai []) (As (As (Ai []) (Ac none true (As (Ai []) Aq) Aq)) (As (Ai []) (As (As (Ai []) (Ac none true (As (Ai []) Aq) Aq)) (As (Ai [P i (P i (P (L i) i))]) (As (As (Ai []) (Ab none true (As (As (Ai []) (Ac none true (As (As (As (Ai [b]) (Ac none true (As (Ai []) Aq) Aq)) (Ai [L i, L (P i (P i (P (L i) i))), L i, L i])) (Ai [L (P i (P i (P (L i) i))), L i, i, L i, i])) (As (As (Ai []) (Ac none true (As (As (As (Ai []) (Ac none true (As (Ai []) Aq) Aq)) (As (Ai [L i, L i]) (Ai [L i, L i, L i]))) (Ai [L (P i (P i (P (L i) i))), L i, i, L i, i])) (As (As (Ai []) (As (As (Ai []) (Ac none true (As (As (As (Ai [b, b, b]) (Ac none true (As (Ai []) Aq) Aq)) (Ai [])) (Ai [i, L i, i])) (As (As (Ai []) (Ac none true (As (As (Ai []) (Ac none true (As (Ai []) Aq) Aq)) (Ai [])) (As (Ai []) (Ac none true (As (As (Ai []) (Ac none true (As (Ai []) Aq) Aq)) (As (Ai [L (P i (P i (P (L i) i))), L (P i (P i (P (L i) i))), L (P i (P i (P (L i) i)))]) (As (Ai []) Aq))) (As (Ai []) Aq))))) (Ai [i, L i, i])))) (Ai [L (P i (P i (P (L i) i))), L i]))) (Ai [L (P i (P i (P (L i) i))), L i, i, L i, i])))) (Ai [L (P i (P i (P (L i) i))), L i, i, L i, i])))) (Ai [L (P i (P i (P (L i) i))), L i, i, L i, i])))) (As (Ai [L (P i (P i (P (L i) i)))]) (As (Ai []) Aq)))))))
noncomputable def f32 : Fn := ⟨[i, i, L (P i (P i (P (L i) i))), L i, i, i, i], [i, i, L (P i (P i (P (L i) i))), L i, b], fun a => Sh.spec_l12Step a.1 a.2.1 a.2.2.1 a.2.2.2.1 a.2.2.2.2.1 a.2.2.2.2.2.1 a.2.2.2.2.2.2⟩
def a33 : Ann := As (Ai []) (As (Ai []) (As (As (Ai [b]) (Ac none true (As (Ai []) Aq) Aq)) (As (Ai []) (As (As (Ai []) (Ab (some (7, [i, i, L (P i (P i (P (L i) i))), L i, L i])) false (As (Ai [i, i, L (P i (P i (P (L i) i))), L i, L i, i]) (Al 7 [i, i, L (P i (P i (P (L i) i))), L i, L i, i] [(0, 7)] [[i, i, L (P i (P i (P (L i) i))), L i, L i]] (As (As (Ai []) (As (Ac none true Aq (As (Ai [i, i, L (P i (P i (P (L i) i))), L i, L i]) Aq)) (As (Ab (some (13, [i, i, L (P i (P i (P (L i) i))), L i, L i])) false (As (As (Ai [P i (P i i)]) (As (Ai []) (As (As (Ai []) (Ac (some (23, [i, i, L (P i (P i (P (L i) i))), L i])) false (As (Ai []) (Ai [i, i, L (P i (P i (P (L i) i))), L i])) (As Aq (Ai [i, i, L (P i (P i (P (L i) i))), L i])))) (Ai [L i, L i])))) (Ai [i, i, L (P i (P i (P (L i) i))), L i, L i]))) (Ai [])))) (Ai [i, i, L (P i (P i (P (L i) i))), L i, L i, i])))))) (As (Ai []) Aq)))))
noncomputable def f33 : Fn := ⟨[i, L (P i (P i i))], [i, i, L (P i (P i (P (L i) i))), L i, L i, b], fun a => Sh.spec_PlayFence a.1 a.2⟩
def a34 : Ann := As (Ai []) (As (As (Ai []) (Ac none true (As (Ai []) Aq) Aq)) (As (As (Ai []) (Ab (some (2, [])) true (As (Ai [i]) (Al 2 [i] [(0, 2)] [[], [b]] (As (As (Ai []) (As (Ac none true Aq (As (Ai []) Aq)) (As (Ab (some (3, [])) true (As (As (Ai []) (As (Ai []) (Ac none true (As (Ai []) Aq) Aq))) (Ai []))) (Ai [])))) (Ai [i])))))) (As (Ai []) Aq)))
noncomputable def f34 : Fn := ⟨[L i, L i], [b], fun a => Sh.laws_sameInts a.1 a.2⟩
def a35 : Ann := As (Ai []) (As (As (Ai []) (Ac none true (As (Ai []) Aq) Aq)) (As (Ai []) (As (As (Ai []) (Ab (some (5, [i])) false (As (Ai [i, i]) (Al 5 [i, i] [(0, 5)] [[i]] (As (As (Ai []) (As (Ac none true Aq (As (Ai [i]) Aq)) (As (Ab (some (7, [i])) false (As (As (Ai [P i (P i (P (L i) i))]) (Ai [])) (Ai [i]))) (Ai [])))) (Ai [i, i])))))) (As (Ai []) Aq))))
noncomputable def f35 : Fn := ⟨[i, i, L (P i (P i (P (L i) i))), L i], [i, b], fun a => Sh.impl_LeastEpoch a.1 a.2.1 a.2.2.1 a.2.2.2⟩
def a36 : Ann := As (Ai []) (As (Ai []) Aq)
noncomputable def f36 : Fn := ⟨[i, i, L (P i (P i (P (L i) i))), L i], [b], fun a => Sh.impl_GoodFence a.1 a.2.1 a.2.2.1 a.2.2.2⟩
def a37 : Ann := As (Ai []) (As (As (Ai [b, b, b]) (Ac none true (As (Ai []) Aq) Aq)) (As (As (Ai []) (Ab (some (11, [])) true (As (Ai [i]) (Al 11 [i] [(0, 11)] [[], [b]] (As (As (Ai []) (As (Ac none true Aq (As (Ai []) Aq)) (As (Ab (some (12, [])) true (As (As (Ai [P i (P i (P (L i) i))]) (As (As (Ai [b, b, b, b, b]) (Ac none true (As (Ai []) Aq) Aq)) (As (As (Ai []) (Ab (some (21, [L i])) true (As (Ai [L i, i]) (Al 21 [L i, i] [(2, 21)] [[L i], [b]] (As (As (Ai []) (As (Ac none true Aq (As (Ai [L i]) Aq)) (As (Ab (some (23, [])) true (As (As (Ai []) (As (Ai [b, b]) (Ac none true (As (Ai []) Aq) Aq))) (Ai []))) (Ai [])))) (Ai [L i, i])))))) (As (Ai []) (Ac none true (As (Ai []) Aq) Aq))))) (Ai []))) (Ai [])))) (Ai [i])))))) (As (As (Ai []) (Ab (some (11, [])) true (As (Ai [i]) (Al 11 [i] [(4, 11)] [[], [b]] (As (As (Ai []) (As (Ac none true Aq (As (Ai []) Aq)) (As (Ab (some (12, [])) true (As (As (Ai []) (As (Ai []) (Ac none true (As (Ai []) Aq) Aq))) (Ai []))) (Ai [])))) (Ai [i])))))) (As (Ai []) Aq))))
noncomputable def f37 : Fn := ⟨[i, i, L (P i (P i (P (L i) i))), L i], [b], fun a => Sh.spec_GoodFence a.1 a.2.1 a.2.2.1 a.2.2.2⟩
def a38 : Ann := As (Ai []) (As (As (Ai []) (Ac none true (As (Ai []) Aq) Aq)) (As (Ai []) (As (Ai []) (As (Ai []) (As (As (Ai [b]) (Ac none true (As (Ai []) Aq) Aq)) (As (As (Ai []) (Ac none true (As (Ai []) Aq) Aq)) (As (Ai []) (As (As (Ai [b, b, b]) (Ac none true (As (Ai []) Aq) Aq)) (As (As (Ai []) (Ab (some (24, [])) true (As (Ai [i]) (Al 24 [i] [(0, 24)] [[], [b]] (As (As (Ai []) (As (Ac none true Aq (As (Ai []) Aq)) (As (Ab (some (25, [])) true (As (As (Ai [P i (P i (P (L i) i))]) (As (Ai []) (Ab (some (26, [])) true (As (Ai [L i, i]) (Al 26 [L i, i] [(2, 26)] [[], [b]] (As (As (Ai []) (As (Ac none true Aq (As (Ai []) Aq)) (As (Ab (some (28, [L i])) true (As (As (Ai []) (As (Ai []) (Ac none true (As (Ai []) Aq) Aq))) (Ai [L i]))) (Ai [])))) (Ai [L i, i]))))))) (Ai []))) (Ai [])))) (Ai [i])))))) (As (As (Ai []) (Ab (some (24, [])) true (As (Ai [i]) (Al 24 [i] [(4, 24)] [[], [b]] (As (As (As (Ai []) (Ac none true Aq (As (Ai []) Aq))) (As (Ab (some (25, [])) true (As (As (Ai [b]) (Ac none true (As (Ai []) Aq) Aq)) (Ai []))) (Ai []))) (Ai [i])))))) (As (Ai []) Aq)))))))))))
noncomputable def f38 : Fn := ⟨[L i], [b], fun a => Sh.laws_FnFence a⟩
noncomputable def fs : List Fn := [f0, f1, f2, f3, f4, f5, f6, f7, f8, f9, f10, f11, f12, f13, f14, f15, f16, f17, f18, f19, f20, f21, f22, f23, f24, f25, f26, f27, f28, f29, f30, f31, f32, f33, f34, f35, f36, f37, f38]
theorem t0 : ∀ a, f0.f a = dnFn fs 0 p0 a0 f0.ins f0.outs a := by intro a; kernel_rfl
theorem t1 : ∀ a, f1.f a = dnFn fs 1 p1 a1 f1.ins f1.outs a := by intro a; kernel_rfl
theorem t2 : ∀ a, f2.f a = dnFn fs 2 p2 a2 f2.ins f2.outs a := by intro a; kernel_rfl
theorem t3 : ∀ a, f3.f a = dnFn fs 3 p3 a3 f3.ins f3.outs a := by intro a; kernel_rfl
theorem t4 : ∀ a, f4.f a = dnFn fs 4 p4 a4 f4.ins f4.outs a := by intro a; kernel_rfl
theorem t5 : ∀ a, f5.f a = dnFn fs 5 p5 a5 f5.ins f5.outs a := by intro a; kernel_rfl
theorem t6 : ∀ a, f6.f a = dnFn fs 6 p6 a6 f6.ins f6.outs a := by intro a; kernel_rfl
theorem t7 : ∀ a, f7.f a = dnFn fs 7 p7 a7 f7.ins f7.outs a := by intro a; kernel_rfl
theorem t8 : ∀ a, f8.f a = dnFn fs 8 p8 a8 f8.ins f8.outs a := by intro a; kernel_rfl
theorem t9 : ∀ a, f9.f a = dnFn fs 9 p9 a9 f9.ins f9.outs a := by intro a; kernel_rfl
theorem t10 : ∀ a, f10.f a = dnFn fs 10 p10 a10 f10.ins f10.outs a := by intro a; kernel_rfl
theorem t11 : ∀ a, f11.f a = dnFn fs 11 p11 a11 f11.ins f11.outs a := by intro a; kernel_rfl
theorem t12 : ∀ a, f12.f a = dnFn fs 12 p12 a12 f12.ins f12.outs a := by intro a; kernel_rfl
theorem t13 : ∀ a, f13.f a = dnFn fs 13 p13 a13 f13.ins f13.outs a := by intro a; kernel_rfl
theorem t14 : ∀ a, f14.f a = dnFn fs 14 p14 a14 f14.ins f14.outs a := by intro a; kernel_rfl
theorem t15 : ∀ a, f15.f a = dnFn fs 15 p15 a15 f15.ins f15.outs a := by intro a; kernel_rfl
theorem t16 : ∀ a, f16.f a = dnFn fs 16 p16 a16 f16.ins f16.outs a := by intro a; kernel_rfl
theorem t17 : ∀ a, f17.f a = dnFn fs 17 p17 a17 f17.ins f17.outs a := by intro a; kernel_rfl
theorem t18 : ∀ a, f18.f a = dnFn fs 18 p18 a18 f18.ins f18.outs a := by intro a; kernel_rfl
theorem t19 : ∀ a, f19.f a = dnFn fs 19 p19 a19 f19.ins f19.outs a := by intro a; kernel_rfl
theorem t20 : ∀ a, f20.f a = dnFn fs 20 p20 a20 f20.ins f20.outs a := by intro a; kernel_rfl
theorem t21 : ∀ a, f21.f a = dnFn fs 21 p21 a21 f21.ins f21.outs a := by intro a; kernel_rfl
theorem t22 : ∀ a, f22.f a = dnFn fs 22 p22 a22 f22.ins f22.outs a := by intro a; kernel_rfl
theorem t23 : ∀ a, f23.f a = dnFn fs 23 p23 a23 f23.ins f23.outs a := by intro a; kernel_rfl
theorem t24 : ∀ a, f24.f a = dnFn fs 24 p24 a24 f24.ins f24.outs a := by intro a; kernel_rfl
theorem t25 : ∀ a, f25.f a = dnFn fs 25 p25 a25 f25.ins f25.outs a := by intro a; kernel_rfl
theorem t26 : ∀ a, f26.f a = dnFn fs 26 p26 a26 f26.ins f26.outs a := by intro a; kernel_rfl
theorem t27 : ∀ a, f27.f a = dnFn fs 27 p27 a27 f27.ins f27.outs a := by intro a; kernel_rfl
theorem t28 : ∀ a, f28.f a = dnFn fs 28 p28 a28 f28.ins f28.outs a := by intro a; kernel_rfl
theorem t29 : ∀ a, f29.f a = dnFn fs 29 p29 a29 f29.ins f29.outs a := by intro a; kernel_rfl
theorem t30 : ∀ a, f30.f a = dnFn fs 30 p30 a30 f30.ins f30.outs a := by intro a; kernel_rfl
theorem t31 : ∀ a, f31.f a = dnFn fs 31 p31 a31 f31.ins f31.outs a := by intro a; kernel_rfl
theorem t32 : ∀ a, f32.f a = dnFn fs 32 p32 a32 f32.ins f32.outs a := by intro a; kernel_rfl
theorem t33 : ∀ a, f33.f a = dnFn fs 33 p33 a33 f33.ins f33.outs a := by intro a; kernel_rfl
theorem t34 : ∀ a, f34.f a = dnFn fs 34 p34 a34 f34.ins f34.outs a := by intro a; kernel_rfl
theorem t35 : ∀ a, f35.f a = dnFn fs 35 p35 a35 f35.ins f35.outs a := by intro a; kernel_rfl
theorem t36 : ∀ a, f36.f a = dnFn fs 36 p36 a36 f36.ins f36.outs a := by intro a; kernel_rfl
theorem t37 : ∀ a, f37.f a = dnFn fs 37 p37 a37 f37.ins f37.outs a := by intro a; kernel_rfl
theorem t38 : ∀ a, f38.f a = dnFn fs 38 p38 a38 f38.ins f38.outs a := by intro a; kernel_rfl
theorem tf : ∀ j F, fs[j]? = some F → TfOk (sysOf ps) j F := all_tf (fs := fs) (ps := ps) (hs := [a0, a1, a2, a3, a4, a5, a6, a7, a8, a9, a10, a11, a12, a13, a14, a15, a16, a17, a18, a19, a20, a21, a22, a23, a24, a25, a26, a27, a28, a29, a30, a31, a32, a33, a34, a35, a36, a37, a38]) ⟨t0, t1, t2, t3, t4, t5, t6, t7, t8, t9, t10, t11, t12, t13, t14, t15, t16, t17, t18, t19, t20, t21, t22, t23, t24, t25, t26, t27, t28, t29, t30, t31, t32, t33, t34, t35, t36, t37, t38, trivial⟩
end Gp.Ytilbjedfmbokcaa
