/- Gp: the seat's typed functions; each is the reading of its pure program (checked by the kernel). -/
import Derived.Test.YtmimoddajeeioaaGpFFnTold
import Derived.Test.YtmimoddajeeioaaGpSh4
import Derived.Test.YtmimoddajeeioaaShFnTold
set_option maxRecDepth 100000
namespace Gp.Ytmimoddajeeioaa
open Go Gp
abbrev As := @Ann.seq
abbrev Ai := @Ann.sis
abbrev Aq := @Ann.nil
abbrev Ac := @Ann.cond
abbrev Ab := @Ann.block
abbrev Al := @Ann.loop
abbrev i := Ty.int
abbrev b := Ty.bool
abbrev L := @Ty.list
abbrev P := @Ty.pair
abbrev S := Ty.str
def a0 : Ann := As (Ai []) (As (Ai []) (As (As (Ai []) (Ac (some (3, [i])) false (As (Ai []) (Ai [i])) (As Aq (Ai [i])))) (As (Ai []) (As (Ai []) (As (As (Ai []) (Ac none true (As (Ai []) Aq) Aq)) (As (Ai []) Aq))))))
noncomputable def f0 : Fn := ⟨[L i, i, i], [i, i, i], fun a => Sh.spec_l1Cur_next a.1 a.2.1 a.2.2⟩
def a1 : Ann := As (Ai []) (As (As (Ai []) (Ac none true (As (Ai []) Aq) Aq)) (As (Ai []) (As (As (Ai []) (Ac (some (7, [i, i, i])) false (As (Ai []) (Ai [i, i, i])) (As Aq (Ai [i, i, i])))) (As (Ai []) Aq))))
noncomputable def f1 : Fn := ⟨[L i, i, i, i], [i, i, i], fun a => Sh.spec_l1Cur_pick a.1 a.2.1 a.2.2.1 a.2.2.2⟩
def a2 : Ann := As (Ai []) (As (Ai []) Aq)
noncomputable def f2 : Fn := ⟨[L i, i, i, i], [i, i, b], fun a => Sh.spec_l1Cur_one a.1 a.2.1 a.2.2.1 a.2.2.2⟩
def a3 : Ann := As (Ai []) (As (Ai []) Aq)
noncomputable def f3 : Fn := ⟨[L i, i, i, L i], [i, i, i], fun a => Sh.spec_l1Cur_among a.1 a.2.1 a.2.2.1 a.2.2.2⟩
def a4 : Ann := As (Ai []) (As (Ai []) (As (Ai []) (As (As (Ai []) (Ac (some (9, [i, i, i])) false (As (Ai [L i]) (Ai [i, i, i])) (As Aq (Ai [i, i, i])))) (As (Ab (some (12, [i, i, L i])) false (As (Ai [i, i, L i, i]) (Al 12 [i, i, L i, i] [(0, 12)] [[i, i, L i]] (As (As (As (Ai []) (Ac none true Aq (As (Ai [i, i, L i]) Aq))) (As (Ab (some (16, [i, i, L i])) false (As (Ai [L i, L i]) (Ai [i, i, L i]))) (Ai []))) (Ai [i, i, L i, i]))))) (As (As (Ai [i, i, b]) (Ac (some (21, [i, i, L i])) false (As (Ai [L i, L i]) (Ai [i, i, L i])) (As Aq (Ai [i, i, L i])))) (As (Ai []) Aq))))))
noncomputable def f4 : Fn := ⟨[L i, i, i], [i, i, L i], fun a => Sh.spec_l1Cur_shardSizes a.1 a.2.1 a.2.2⟩
def a5 : Ann := As (Ai []) (As (Ai []) (As (Ai []) (As (As (Ai []) (Ac (some (10, [i, i, i])) false (As (Ai []) (Ai [i, i, i])) (As Aq (Ai [i, i, i])))) (As (Ab (some (13, [i, i, L (P i (P i i))])) false (As (Ai [i, i, L (P i (P i i)), i]) (Al 13 [i, i, L (P i (P i i)), i] [(0, 13)] [[i, i, L (P i (P i i))]] (As (As (As (Ai []) (Ac none true Aq (As (Ai [i, i, L (P i (P i i))]) Aq))) (As (Ab (some (17, [i, i, L (P i (P i i))])) false (As (As (Ai [L i]) (As (As (Ai []) (Ab (some (30, [i, i, i])) false (As (As (Ai []) (Ac (some (30, [i, i, i])) false (As (Ai []) (Ai [i, i, i])) (As (As (Ai []) (Ac (some (30, [i, i, i])) false (As (Ai []) (Ai [i, i, i])) (As (As (Ai []) (Ac (some (30, [i, i, i])) false (As (Ai [L i]) (Ai [i, i, i])) (As Aq (Ai [i, i, i])))) (Ai [i, i, i])))) (Ai [i, i, i])))) (Ai [i, i, i])))) (Ai [L (P i (P i i)), L (P i (P i i))]))) (Ai [i, i, L (P i (P i i))]))) (Ai []))) (Ai [i, i, L (P i (P i i)), i]))))) (As (Ai []) Aq)))))
noncomputable def f5 : Fn := ⟨[L i, i, i, i], [i, i, L (P i (P i i))], fun a => Sh.spec_l1Cur_commitSteps a.1 a.2.1 a.2.2.1 a.2.2.2⟩
def a6 : Ann := As (Ai []) (As (Ai []) (As (Ai []) (As (Ai []) Aq)))
noncomputable def f6 : Fn := ⟨[L i], [L i, L (P i (P i i))], fun a => Sh.spec_DrawPlayCommit a⟩
def a7 : Ann := As (Ai []) (As (Ai [b]) Aq)
noncomputable def f7 : Fn := ⟨[i, i, i], [b], fun a => Sh.impl_in a.1 a.2.1 a.2.2⟩
def a8 : Ann := As (Ai []) (As (As (Ai []) (Ac none true (As (Ai []) Aq) Aq)) (As (Ai []) (As (As (Ai []) (Ab (some (2, [L (L (P b i))])) true (As (Ai [L (L (P b i)), i]) (Al 2 [L (L (P b i)), i] [(0, 2)] [[L (L (P b i))], [L (L (P b i)), i, b]] (As (As (Ai []) (As (Ac none true Aq (As (Ai [L (L (P b i))]) Aq)) (As (Ab (some (4, [L (L (P b i))])) true (As (As (Ai []) (As (As (Ai []) (Ac none true (As (Ai []) Aq) Aq)) (Ai [L (P b i), L (L (P b i)), L (L (P b i))]))) (Ai [L (L (P b i))]))) (Ai [])))) (Ai [L (L (P b i)), i])))))) (As (Ai []) Aq))))
noncomputable def f8 : Fn := ⟨[L i], [L (L (P b i)), i, b], fun a => Sh.impl_newCommit a⟩
def a9 : Ann := As (Ai []) (As (Ai []) (As (As (Ai []) (Ab (some (3, [L (L (P b i))])) false (As (Ai [L (L (P b i)), i]) (Al 3 [L (L (P b i)), i] [(0, 3)] [[L (L (P b i))]] (As (As (Ai []) (As (Ac none true Aq (As (Ai [L (L (P b i))]) Aq)) (As (Ab (some (5, [L (L (P b i))])) false (As (As (Ai [L (P b i)]) (Ai [L (P b i), L (P b i), L (L (P b i)), L (L (P b i))])) (Ai [L (L (P b i))]))) (Ai [])))) (Ai [L (L (P b i)), i])))))) (As (Ai []) Aq)))
noncomputable def f9 : Fn := ⟨[L (L (P b i)), i, i], [L (L (P b i)), i, i], fun a => Sh.impl_copyCommit a.1 a.2.1 a.2.2⟩
def a10 : Ann := As (Ai []) (As (As (Ai []) (Ab (some (2, [])) true (As (Ai [i]) (Al 2 [i] [(0, 2)] [[], [i]] (As (As (Ai []) (As (Ac none true Aq (As (Ai []) Aq)) (As (Ab (some (3, [])) true (As (As (Ai []) (As (Ai []) (Ac none true (As (Ai []) Aq) Aq))) (Ai []))) (Ai [])))) (Ai [i])))))) (As (Ai []) Aq))
noncomputable def f10 : Fn := ⟨[L i, i], [i], fun a => Sh.slices_Index__int_int a.1 a.2⟩
def a11 : Ann := As (Ai []) (As (Ai []) Aq)
noncomputable def f11 : Fn := ⟨[L i, i], [b], fun a => Sh.slices_Contains__int_int a.1 a.2⟩
def a12 : Ann := As (Ai []) (As (Ai []) (As (As (Ai []) (Ab (some (2, [i, i])) false (As (Ai [i, i, i]) (Al 2 [i, i, i] [(0, 2)] [[i, i]] (As (As (Ai []) (As (Ac none true Aq (As (Ai [i, i]) Aq)) (As (Ab (some (5, [i, i])) false (As (As (Ai [P b i]) (As (Ai []) (Ac (some (6, [i, i])) false (As (As (Ai []) (As (Ai []) (Ac (some (7, [i])) false (As (Ai []) (Ai [i])) (As Aq (Ai [i]))))) (Ai [i, i])) (As Aq (Ai [i, i]))))) (Ai [i, i]))) (Ai [])))) (Ai [i, i, i])))))) (As (Ai []) Aq)))
noncomputable def f12 : Fn := ⟨[L (P b i), L i], [i, i], fun a => Sh.impl_Shard_ups a.1 a.2⟩
def a13 : Ann := As (Ai []) (As (Ai [L i]) (As (Ai [b]) Aq))
noncomputable def f13 : Fn := ⟨[L (P b i)], [b], fun a => Sh.impl_Commit_step_1 a⟩
def a14 : Ann := As (Ai []) (As (As (Ai []) (Ab (some (1, [])) true (As (Ai [i]) (Al 1 [i] [(0, 1)] [[], [i]] (As (As (Ai []) (As (Ac none true Aq (As (Ai []) Aq)) (As (Ab (some (2, [])) true (As (As (Ai []) (As (Ai [L (P b i)]) (Ac none true (As (Ai []) Aq) Aq))) (Ai []))) (Ai [])))) (Ai [i])))))) (As (Ai []) Aq))
noncomputable def f14 : Fn := ⟨[L (L (P b i))], [i], fun a => Sh.slices_IndexFunc__impl_Shard_impl_Shard a⟩
def a15 : Ann := As (Ai []) (As (Ai []) Aq)
noncomputable def f15 : Fn := ⟨[L (L (P b i))], [b], fun a => Sh.slices_ContainsFunc__impl_Shard_impl_Shard a⟩
def a16 : Ann := As (Ai []) (As (Ai [L i]) (As (Ai []) Aq))
noncomputable def f16 : Fn := ⟨[L (P b i)], [b], fun a => Sh.impl_Commit_step_2 a⟩
def a17 : Ann := As (Ai []) (As (As (Ai []) (Ab (some (1, [])) true (As (Ai [i]) (Al 1 [i] [(0, 1)] [[], [i]] (As (As (Ai []) (As (Ac none true Aq (As (Ai []) Aq)) (As (Ab (some (2, [])) true (As (As (Ai []) (As (Ai [L (P b i)]) (Ac none true (As (Ai []) Aq) Aq))) (Ai []))) (Ai [])))) (Ai [i])))))) (As (Ai []) Aq))
noncomputable def f17 : Fn := ⟨[L (L (P b i))], [i], fun a => Sh.slices_IndexFunc__impl_Shard_impl_Shard' a⟩
def a18 : Ann := As (Ai []) (As (Ai []) Aq)
noncomputable def f18 : Fn := ⟨[L (L (P b i))], [b], fun a => Sh.slices_ContainsFunc__impl_Shard_impl_Shard' a⟩
def a19 : Ann := As (Ai []) (As (Ai []) Aq)
noncomputable def f19 : Fn := ⟨[b, i], [b], fun a => Sh.impl_Shard_primary_1 a.1 a.2⟩
def a20 : Ann := As (Ai []) (As (As (Ai []) (Ab (some (1, [])) true (As (Ai [i]) (Al 1 [i] [(0, 1)] [[], [i]] (As (As (Ai []) (As (Ac none true Aq (As (Ai []) Aq)) (As (Ab (some (2, [])) true (As (As (Ai []) (As (Ai [P b i]) (Ac none true (As (Ai []) Aq) Aq))) (Ai []))) (Ai [])))) (Ai [i])))))) (As (Ai []) Aq))
noncomputable def f20 : Fn := ⟨[L (P b i)], [i], fun a => Sh.slices_IndexFunc__impl_Replica_impl_Replica a⟩
def a21 : Ann := As (Ai []) (As (Ai []) Aq)
noncomputable def f21 : Fn := ⟨[L (P b i)], [i], fun a => Sh.impl_Shard_primary a⟩
def a22 : Ann := As (Ai []) (As (Ai []) (As (Ai [b, b]) Aq))
noncomputable def f22 : Fn := ⟨[L (P b i)], [b], fun a => Sh.impl_Commit_act_1 a⟩
def a23 : Ann := As (Ai []) (As (As (Ai []) (Ab (some (1, [])) true (As (Ai [i]) (Al 1 [i] [(0, 1)] [[], [i]] (As (As (Ai []) (As (Ac none true Aq (As (Ai []) Aq)) (As (Ab (some (2, [])) true (As (As (Ai []) (As (Ai [L (P b i)]) (Ac none true (As (Ai []) Aq) Aq))) (Ai []))) (Ai [])))) (Ai [i])))))) (As (Ai []) Aq))
noncomputable def f23 : Fn := ⟨[L (L (P b i))], [i], fun a => Sh.slices_IndexFunc__impl_Shard_impl_Shard'' a⟩
def a24 : Ann := As (Ai []) (As (Ai []) Aq)
noncomputable def f24 : Fn := ⟨[L (L (P b i))], [b], fun a => Sh.slices_ContainsFunc__impl_Shard_impl_Shard'' a⟩
def a25 : Ann := As (Ai []) (As (As (Ai []) (Ac none true (As (Ai []) Aq) Aq)) (As (Ai []) Aq))
noncomputable def f25 : Fn := ⟨[L (L (P b i)), i, i], [i], fun a => Sh.impl_Commit_decision a.1 a.2.1 a.2.2⟩
def a26 : Ann := As (Ai []) (As (Ai []) (As (Ai []) (As (As (Ai []) (Ab (some (7, [L (L (P b i))])) true (As (As (Ai []) (Ac (some (7, [L (L (P b i))])) true (As (As (As (Ai [L (P b i), b, b]) (Ac none true (As (Ai []) Aq) Aq)) (Ai [L (L (P b i)), L (P b i), L (P b i), L (L (P b i))])) (Ai [L (L (P b i))])) (As (As (Ai []) (Ac (some (7, [L (L (P b i))])) true (As (As (Ai []) (As (As (Ai [b, b, b]) (Ac none true (As (Ai []) Aq) Aq)) (Ai [L (L (P b i)), L (P b i), L (P b i), L (L (P b i))]))) (Ai [L (L (P b i))])) (As (As (Ai []) (Ac (some (7, [L (L (P b i))])) true (As (As (As (Ai [L (P b i)]) (As (Ai []) (Ac none true (As (Ai []) Aq) Aq))) (Ai [L (L (P b i)), L (P b i), L (P b i), L (L (P b i))])) (Ai [L (L (P b i))])) (As (As (Ai []) (Ac (some (7, [L (L (P b i))])) true (As (As (As (Ai [b, b]) (Ac none true (As (Ai []) Aq) Aq)) (As (Ai [L (L (P b i)), L (P b i), L (P b i), L (L (P b i))]) (As (Ai []) (Ac (some (14, [L (L (P b i))])) false (As (Ai [L (L (P b i)), L (P b i), L (P b i), L (L (P b i))]) (Ai [L (L (P b i))])) (As Aq (Ai [L (L (P b i))])))))) (Ai [L (L (P b i))])) (As Aq (Ai [L (L (P b i))])))) (Ai [L (L (P b i))])))) (Ai [L (L (P b i))])))) (Ai [L (L (P b i))])))) (Ai [L (L (P b i))])))) (As (Ai []) Aq))))
noncomputable def f26 : Fn := ⟨[L (L (P b i)), i, i, i, i, i, b], [L (L (P b i)), b], fun a => Sh.impl_Commit_act a.1 a.2.1 a.2.2.1 a.2.2.2.1 a.2.2.2.2.1 a.2.2.2.2.2.1 a.2.2.2.2.2.2⟩
def a27 : Ann := As (Ai []) (As (Ai []) (As (Ai [b]) (As (Ai []) (As (As (Ai []) (Ab (some (10, [L (L (P b i)), i, i, b])) false (As (As (Ai []) (Ac (some (10, [L (L (P b i)), i, i, b])) false (As (As (Ai [b]) (Ai [])) (Ai [L (L (P b i)), i, i, b])) (As (As (Ai []) (Ac (some (10, [L (L (P b i)), i, i, b])) false (As (As (Ai []) (Ai [])) (Ai [L (L (P b i)), i, i, b])) (As (As (Ai []) (Ac (some (10, [L (L (P b i)), i, b])) false (As (As (Ai []) (As (Ai []) (As (Ai []) (Ac (some (10, [i])) false (As (As (Ai []) (As (Ai []) (Ac (some (11, [i])) false (As (Ai []) (Ai [i])) (As Aq (Ai [i]))))) (Ai [i])) (As Aq (Ai [i])))))) (Ai [L (L (P b i)), i, b])) (As (As (As (Ai []) (Ac (some (10, [b])) false (As Aq (Ai [b])) (As (As (Ai []) (Ac (some (10, [b])) false (As Aq (Ai [b])) (As (As (Ai []) (Ac (some (10, [b])) false (As Aq (Ai [b])) (As (Ai []) (Ai [b])))) (Ai [b])))) (Ai [b])))) (Ac (some (11, [L (L (P b i)), b])) false (As (Ai [b, b, L (L (P b i)), b]) (Ai [L (L (P b i)), b])) (As Aq (Ai [L (L (P b i)), b])))) (Ai [L (L (P b i)), i, b])))) (Ai [L (L (P b i)), i, i, b])))) (Ai [L (L (P b i)), i, i, b])))) (Ai [L (L (P b i)), i, i, b])))) (As (As (Ai []) (Ac none true (As (Ai []) Aq) Aq)) (As (Ai []) Aq))))))
noncomputable def f27 : Fn := ⟨[L (L (P b i)), i, i, i, i, i], [L (L (P b i)), i, i, b], fun a => Sh.impl_Commit_step a.1 a.2.1 a.2.2.1 a.2.2.2.1 a.2.2.2.2.1 a.2.2.2.2.2⟩
def a28 : Ann := As (Ai []) (As (Ai []) (As (As (Ai [b]) (Ac none true (As (Ai []) Aq) Aq)) (As (Ai [L b]) (As (As (Ai []) (Ab (some (7, [L (L (P b i)), i, i, L b])) false (As (Ai [L (L (P b i)), i, i, L b, i]) (Al 7 [L (L (P b i)), i, i, L b, i] [(0, 7)] [[L (L (P b i)), i, i, L b]] (As (As (Ai []) (As (Ac none true Aq (As (Ai [L (L (P b i)), i, i, L b]) Aq)) (As (Ab (some (12, [L (L (P b i)), i, i, L b])) false (As (As (Ai [P i (P i i)]) (As (Ai []) (As (As (Ai []) (Ac (some (17, [L (L (P b i)), i, i])) false (As (Ai []) (Ai [L (L (P b i)), i, i])) (As Aq (Ai [L (L (P b i)), i, i])))) (Ai [L b, L b])))) (Ai [L (L (P b i)), i, i, L b]))) (Ai [])))) (Ai [L (L (P b i)), i, i, L b, i])))))) (As (Ai []) Aq)))))
noncomputable def f28 : Fn := ⟨[L i, L (P i (P i i))], [L (L (P b i)), i, i, L b, b], fun a => Sh.impl_PlayCommit a.1 a.2⟩
def a29 : Ann := As (Ai []) (As (Ai [b]) Aq)
noncomputable def f29 : Fn := ⟨[i, i, i], [b], fun a => Sh.spec_l1In a.1 a.2.1 a.2.2⟩
def a30 : Ann := As (Ai []) (As (As (Ai []) (Ac none true (As (Ai []) Aq) Aq)) (As (Ai []) (As (As (Ai []) (Ab (some (2, [L (L (P b i))])) true (As (Ai [L (L (P b i)), i]) (Al 2 [L (L (P b i)), i] [(0, 2)] [[L (L (P b i))], [L (L (P b i)), i, b]] (As (As (Ai []) (As (Ac none true Aq (As (Ai [L (L (P b i))]) Aq)) (As (Ab (some (4, [L (L (P b i))])) true (As (As (Ai []) (As (As (Ai []) (Ac none true (As (Ai []) Aq) Aq)) (Ai [L (P b i), L (L (P b i)), L (L (P b i))]))) (Ai [L (L (P b i))]))) (Ai [])))) (Ai [L (L (P b i)), i])))))) (As (Ai []) Aq))))
noncomputable def f30 : Fn := ⟨[L i], [L (L (P b i)), i, b], fun a => Sh.spec_NewCommit a⟩
def a31 : Ann := As (Ai []) (As (Ai []) (As (As (Ai []) (Ab (some (3, [L (L (P b i))])) false (As (Ai [L (L (P b i)), i]) (Al 3 [L (L (P b i)), i] [(0, 3)] [[L (L (P b i))]] (As (As (Ai []) (As (Ac none true Aq (As (Ai [L (L (P b i))]) Aq)) (As (Ab (some (5, [L (L (P b i))])) false (As (As (Ai [L (P b i)]) (Ai [L (P b i), L (P b i), L (L (P b i)), L (L (P b i))])) (Ai [L (L (P b i))]))) (Ai [])))) (Ai [L (L (P b i)), i])))))) (As (Ai []) (As (Ai []) Aq))))
noncomputable def f31 : Fn := ⟨[L (L (P b i)), i, i], [L (L (P b i)), i, i], fun a => Sh.spec_l15Own a.1 a.2.1 a.2.2⟩
def a32 : Ann := As (Ai []) (As (As (Ai []) (Ab (some (4, [])) true (As (Ai [i]) (Al 4 [i] [(0, 4)] [[], [b]] (As (As (Ai []) (As (Ac none true Aq (As (Ai []) Aq)) (As (Ab (some (5, [])) true (As (As (Ai [L (P b i)]) (As (Ai []) (As (Ai []) (As (As (Ai []) (Ab (some (6, [b, b])) false (As (Ai [b, b, i]) (Al 6 [b, b, i] [(2, 6)] [[b, b]] (As (As (Ai []) (As (Ac none true Aq (As (Ai [b, b]) Aq)) (As (Ab (some (9, [b, b])) false (As (As (Ai [P b i]) (As (As (Ai []) (Ac none true (As (Ai [b, b]) Aq) Aq)) (As (Ai [b, b]) (As (Ai [b]) (Ai [b]))))) (Ai [b, b]))) (Ai [])))) (Ai [b, b, i])))))) (As (Ai [b, b]) (Ac none true (As (Ai []) Aq) Aq)))))) (Ai []))) (Ai [])))) (Ai [i])))))) (As (Ai []) Aq))
noncomputable def f32 : Fn := ⟨[L (L (P b i)), i, i, b], [b], fun a => Sh.spec_l15Copies a.1 a.2.1 a.2.2.1 a.2.2.2⟩
def a33 : Ann := As (Ai []) (As (As (Ai []) (Ab (some (1, [])) true (As (Ai [i]) (Al 1 [i] [(0, 1)] [[], [i]] (As (As (Ai []) (As (Ac none true Aq (As (Ai []) Aq)) (As (Ab (some (2, [])) true (As (As (Ai [P b i]) (As (Ai []) (Ac none true (As (Ai []) Aq) Aq))) (Ai []))) (Ai [])))) (Ai [i])))))) (As (Ai []) Aq))
noncomputable def f33 : Fn := ⟨[L (P b i)], [i], fun a => Sh.spec_l15Primary a⟩
def a34 : Ann := As (Ai []) (As (As (Ai []) (Ab (some (3, [])) true (As (Ai [i]) (Al 3 [i] [(0, 3)] [[], [b]] (As (As (Ai []) (As (Ac none true Aq (As (Ai []) Aq)) (As (Ab (some (4, [])) true (As (As (Ai [L (P b i)]) (As (Ai []) (As (Ai [b, b]) (Ac none true (As (Ai []) Aq) Aq)))) (Ai []))) (Ai [])))) (Ai [i])))))) (As (Ai []) Aq))
noncomputable def f34 : Fn := ⟨[L (L (P b i)), i, i], [b], fun a => Sh.spec_l15All a.1 a.2.1 a.2.2⟩
def a35 : Ann := As (Ai []) (As (As (Ai []) (Ac none true (As (Ai []) Aq) Aq)) (As (Ai []) Aq))
noncomputable def f35 : Fn := ⟨[L (L (P b i)), i, i], [i], fun a => Sh.spec_l15Decision a.1 a.2.1 a.2.2⟩
def a36 : Ann := As (Ai []) (As (Ai [b]) (As (As (Ai []) (Ab (some (7, [])) true (As (As (Ai []) (Ac none true (As (As (Ai [b]) (Ac none true (As (Ai []) Aq) Aq)) (As (Ai []) (As (Ai []) Aq))) (As (Ai []) (Ac none true (As (Ai []) (As (Ai []) Aq)) (As (Ai []) (Ac none true (As (As (Ai []) (Ac none true (As (Ai []) Aq) Aq)) (As (Ab (some (7, [i])) false (As (As (Ai []) (Ac (some (7, [i])) false (As (Ai []) (Ai [i])) (As (As (Ai []) (Ac (some (8, [i])) false (As (Ai []) (Ai [i])) (As (Ai []) (Ai [i])))) (Ai [i])))) (Ai [i]))) (As (Ai []) Aq))) Aq)))))) (Ai [])))) (As (As (Ai [b]) (Ac none true (As (Ai []) Aq) Aq)) (As (Ai [L (P b i)]) (As (Ai [P b i]) (As (As (Ai []) (Ac none true (As (Ai []) Aq) Aq)) (As (As (Ai []) (Ab (some (12, [L (P b i), b, i])) true (As (As (Ai []) (Ac (some (12, [L (P b i), b, i])) true (As (As (As (Ai [b, b]) (Ac none true (As (Ai []) Aq) Aq)) (Ai [])) (Ai [L (P b i), b, i])) (As (As (Ai []) (Ac (some (12, [L (P b i), b, i])) true (As (As (As (Ai [b, b, b]) (Ac none true (As (Ai []) Aq) Aq)) (Ai [])) (Ai [L (P b i), b, i])) (As (As (Ai []) (Ac (some (12, [L (P b i), b, i])) true (As (As (Ai []) (As (As (Ai []) (Ab (some (12, [L (P b i), i])) false (As (Ai [L (P b i), i, i]) (Al 12 [L (P b i), i, i] [(3, 12)] [[L (P b i), i]] (As (As (Ai []) (As (Ac none true Aq (As (Ai [L (P b i), i]) Aq)) (As (Ab (some (15, [L (P b i), i])) false (As (As (Ai [P b i]) (As (Ai []) (Ac (some (16, [L (P b i), i])) false (As (Ai []) (Ai [L (P b i), i])) (As Aq (Ai [L (P b i), i]))))) (Ai [L (P b i), i]))) (Ai [])))) (Ai [L (P b i), i, i])))))) (As (As (Ai []) (Ac none true (As (Ai []) Aq) Aq)) (Ai [])))) (Ai [L (P b i), b, i])) (As (As (Ai []) (Ac none true (As (Ai []) (As (As (Ai [b, b]) (Ac none true (As (Ai []) Aq) Aq)) (As (Ai []) (As (Ai []) (Ac (some (15, [L (P b i), i])) false (As (Ai []) (Ai [L (P b i), i])) (As Aq (Ai [L (P b i), i]))))))) (As (Ai []) Aq))) (Ai [L (P b i), b, i])))) (Ai [L (P b i), b, i])))) (Ai [L (P b i), b, i])))) (Ai [L (P b i), b, i])))) (As (Ai [L (L (P b i)), L (P b i), L (P b i), L (L (P b i))]) (As (Ai []) Aq)))))))))
noncomputable def f36 : Fn := ⟨[L (L (P b i)), i, i, i, i, i], [L (L (P b i)), i, i, b], fun a => Sh.spec_l15Step a.1 a.2.1 a.2.2.1 a.2.2.2.1 a.2.2.2.2.1 a.2.2.2.2.2⟩
def a37 : Ann := As (Ai []) (As (Ai []) (As (As (Ai [b]) (Ac none true (As (Ai []) Aq) Aq)) (As (Ai []) (As (As (Ai []) (Ab (some (6, [L (L (P b i)), i, i, L b])) false (As (Ai [L (L (P b i)), i, i, L b, i]) (Al 6 [L (L (P b i)), i, i, L b, i] [(0, 6)] [[L (L (P b i)), i, i, L b]] (As (As (Ai []) (As (Ac none true Aq (As (Ai [L (L (P b i)), i, i, L b]) Aq)) (As (Ab (some (11, [L (L (P b i)), i, i, L b])) false (As (As (Ai [P i (P i i)]) (As (Ai []) (As (As (Ai []) (Ac (some (19, [L (L (P b i)), i, i])) false (As (Ai []) (Ai [L (L (P b i)), i, i])) (As Aq (Ai [L (L (P b i)), i, i])))) (Ai [L b, L b])))) (Ai [L (L (P b i)), i, i, L b]))) (Ai [])))) (Ai [L (L (P b i)), i, i, L b, i])))))) (As (Ai []) Aq)))))
noncomputable def f37 : Fn := ⟨[L i, L (P i (P i i))], [L (L (P b i)), i, i, L b, b], fun a => Sh.spec_PlayCommit a.1 a.2⟩
def a38 : Ann := As (Ai []) (As (As (Ai []) (Ac none true (As (Ai []) Aq) Aq)) (As (As (Ai []) (Ab (some (2, [])) true (As (Ai [i]) (Al 2 [i] [(0, 2)] [[], [b]] (As (As (Ai []) (As (Ac none true Aq (As (Ai []) Aq)) (As (Ab (some (3, [])) true (As (As (Ai []) (As (Ai []) (Ac none true (As (Ai []) Aq) Aq))) (Ai []))) (Ai [])))) (Ai [i])))))) (As (Ai []) Aq)))
noncomputable def f38 : Fn := ⟨[L b, L b], [b], fun a => Sh.laws_sameBools a.1 a.2⟩
def a39 : Ann := As (Ai []) (As (Ai []) Aq)
noncomputable def f39 : Fn := ⟨[b, i], [b], fun a => Sh.impl_isCommit_1_1 a.1 a.2⟩
def a40 : Ann := As (Ai []) (As (As (Ai []) (Ab (some (1, [])) true (As (Ai [i]) (Al 1 [i] [(0, 1)] [[], [i]] (As (As (Ai []) (As (Ac none true Aq (As (Ai []) Aq)) (As (Ab (some (2, [])) true (As (As (Ai []) (As (Ai [P b i]) (Ac none true (As (Ai []) Aq) Aq))) (Ai []))) (Ai [])))) (Ai [i])))))) (As (Ai []) Aq))
noncomputable def f40 : Fn := ⟨[L (P b i)], [i], fun a => Sh.slices_IndexFunc__impl_Replica_impl_Replica' a⟩
def a41 : Ann := As (Ai []) (As (Ai []) Aq)
noncomputable def f41 : Fn := ⟨[L (P b i)], [b], fun a => Sh.slices_ContainsFunc__impl_Replica_impl_Replica a⟩
def a42 : Ann := As (Ai []) (As (Ai [b]) Aq)
noncomputable def f42 : Fn := ⟨[L (P b i)], [b], fun a => Sh.impl_isCommit_1 a⟩
def a43 : Ann := As (Ai []) (As (As (Ai []) (Ab (some (1, [])) true (As (Ai [i]) (Al 1 [i] [(0, 1)] [[], [i]] (As (As (Ai []) (As (Ac none true Aq (As (Ai []) Aq)) (As (Ab (some (2, [])) true (As (As (Ai []) (As (Ai [L (P b i)]) (Ac none true (As (Ai []) Aq) Aq))) (Ai []))) (Ai [])))) (Ai [i])))))) (As (Ai []) Aq))
noncomputable def f43 : Fn := ⟨[L (L (P b i))], [i], fun a => Sh.slices_IndexFunc__impl_Shard_impl_Shard''' a⟩
def a44 : Ann := As (Ai []) (As (Ai []) Aq)
noncomputable def f44 : Fn := ⟨[L (L (P b i))], [b], fun a => Sh.slices_ContainsFunc__impl_Shard_impl_Shard''' a⟩
def a45 : Ann := As (Ai []) (As (Ai [b, b, b]) Aq)
noncomputable def f45 : Fn := ⟨[L (L (P b i)), i, i], [b], fun a => Sh.impl_isCommit a.1 a.2.1 a.2.2⟩
def a46 : Ann := As (Ai []) (As (As (Ai []) (Ac none true (As (Ai []) Aq) Aq)) (As (Ai []) Aq))
noncomputable def f46 : Fn := ⟨[L (L (P b i)), i, i], [i, b], fun a => Sh.impl_DecisionOf a.1 a.2.1 a.2.2⟩
def a47 : Ann := As (Ai []) (As (As (Ai []) (Ac none true (As (Ai []) Aq) Aq)) (As (Ai []) Aq))
noncomputable def f47 : Fn := ⟨[L (L (P b i)), i, i, i, i, i], [L (L (P b i)), i, i, b], fun a => Sh.impl_StepCommit a.1 a.2.1 a.2.2.1 a.2.2.2.1 a.2.2.2.2.1 a.2.2.2.2.2⟩
def a48 : Ann := As (Ai []) (As (Ai []) (As (Ai []) (As (As (Ai []) (Ac (some (9, [i])) false (As (Ai []) (Ai [i])) (As Aq (Ai [i])))) (As (Ai []) (As (As (Ai [i, i, b]) (Ac (some (21, [i, i, L (L (P b i)), i, i])) false (As (As (Ai []) (Ab (some (24, [i, i, L (L (P b i)), i, i])) false (As (As (Ai []) (Ac (some (24, [i, i, L (L (P b i)), i, i])) false (As (Ai []) (Ai [i, i, L (L (P b i)), i, i])) (As (As (Ai []) (Ac (some (24, [i, i, L (L (P b i)), i])) false (As (Ai []) (Ai [i, i, L (L (P b i)), i])) (As (As (Ai []) (Ac (some (24, [i, i, L (L (P b i))])) false (As (Ai [L (L (P b i)), L (P b i), L (P b i), L (L (P b i))]) (Ai [i, i, L (L (P b i))])) (As Aq (Ai [i, i, L (L (P b i))])))) (Ai [i, i, L (L (P b i)), i])))) (Ai [i, i, L (L (P b i)), i, i])))) (Ai [i, i, L (L (P b i)), i, i])))) (Ai [i, i, L (L (P b i)), i, i])) (As Aq (Ai [i, i, L (L (P b i)), i, i])))) (As (Ai []) Aq))))))
noncomputable def f48 : Fn := ⟨[L i, i, i], [i, i, L (L (P b i)), i, i], fun a => Sh.spec_l1Cur_commit a.1 a.2.1 a.2.2⟩
def a49 : Ann := As (Ai []) (As (Ai []) (As (Ai []) (As (Ai []) Aq)))
noncomputable def f49 : Fn := ⟨[L i], [L (L (P b i)), i, i, i, i, i], fun a => Sh.spec_DrawStepCommit a⟩
def a50 : Ann := As (Ai []) (As (As (Ai []) (Ab (some (3, [])) true (As (Ai [i]) (Al 3 [i] [(0, 3)] [[], [b]] (As (As (Ai []) (As (Ac none true Aq (As (Ai []) Aq)) (As (Ab (some (4, [])) true (As (As (Ai [L (P b i)]) (As (As (Ai []) (Ab (some (5, [])) true (As (Ai [i]) (Al 5 [i] [(2, 5)] [[], [b]] (As (As (Ai []) (As (Ac none true Aq (As (Ai []) Aq)) (As (Ab (some (6, [])) true (As (As (Ai [P b i]) (As (Ai []) (Ac none true (As (Ai []) Aq) Aq))) (Ai []))) (Ai [])))) (Ai [i])))))) (As (Ai []) (Ac none true (As (Ai []) Aq) Aq)))) (Ai []))) (Ai [])))) (Ai [i])))))) (As (Ai [b, b]) Aq))
noncomputable def f50 : Fn := ⟨[L (L (P b i)), i, i], [b], fun a => Sh.spec_GoodCommit a.1 a.2.1 a.2.2⟩
def a51 : Ann := As (Ai []) (As (As (Ai []) (Ac none true (As (Ai []) Aq) Aq)) (As (Ai []) (As (As (Ai []) (Ac none true (As (Ai []) Aq) Aq)) (As (Ai []) Aq))))
noncomputable def f51 : Fn := ⟨[L (L (P b i)), i, i, i, i, i], [L (L (P b i)), i, i, b], fun a => Sh.spec_StepCommit a.1 a.2.1 a.2.2.1 a.2.2.2.1 a.2.2.2.2.1 a.2.2.2.2.2⟩
def a52 : Ann := As (Ai []) (As (As (Ai []) (Ac none true (As (Ai []) Aq) Aq)) (As (Ai []) (As (Ai []) (As (Ai []) (As (As (Ai [b]) (Ac none true (As (Ai []) Aq) Aq)) (As (As (Ai []) (Ac none true (As (Ai []) Aq) Aq)) (As (Ai []) (As (As (Ai []) (Ac none true (As (Ai []) Aq) Aq)) (As (As (Ai []) (Ac (some (18, [])) true (As (As (Ai []) (Ab (some (18, [])) true (As (Ai [i]) (Al 18 [i] [(0, 18)] [[], [b]] (As (As (Ai []) (As (Ac none true Aq (As (Ai []) Aq)) (As (Ab (some (19, [])) true (As (As (Ai [L (P b i)]) (As (Ai []) (As (As (Ai []) (Ab (some (20, [b])) false (As (Ai [b, L (P b i), i]) (Al 20 [b, L (P b i), i] [(2, 20)] [[b]] (As (As (Ai []) (As (Ac none true Aq (As (Ai [b]) Aq)) (As (Ab (some (23, [b, L (P b i)])) false (As (As (Ai [P b i]) (Ai [b, b, b])) (Ai [b, L (P b i)]))) (Ai [])))) (Ai [b, L (P b i), i])))))) (As (Ai []) (Ac none true (As (Ai []) Aq) Aq))))) (Ai []))) (Ai [])))) (Ai [i])))))) (Ai [])) (As Aq (Ai [])))) (As (Ai []) (As (As (Ai []) (Ac (some (22, [])) true (As (As (Ai []) (As (Ai [b, b, b]) (Ac none true (As (Ai []) Aq) Aq))) (Ai [])) (As Aq (Ai [])))) (As (Ai []) (As (Ai []) (As (Ai []) (As (As (Ai []) (Ac none true (As (Ai []) Aq) Aq)) (As (Ai []) (As (Ai []) (As (Ai [b, b, b, b]) Aq))))))))))))))))))
noncomputable def f52 : Fn := ⟨[L i, L i], [b], fun a => Sh.laws_FnTold a.1 a.2⟩
noncomputable def fs : List Fn := [f0, f1, f2, f3, f4, f5, f6, f7, f8, f9, f10, f11, f12, f13, f14, f15, f16, f17, f18, f19, f20, f21, f22, f23, f24, f25, f26, f27, f28, f29, f30, f31, f32, f33, f34, f35, f36, f37, f38, f39, f40, f41, f42, f43, f44, f45, f46, f47, f48, f49, f50, f51, f52]
theorem t0 : ∀ a, f0.f a = dnFn fs 0 p0 a0 f0.ins f0.outs a := by intro a; kernel_rfl
theorem t1 : ∀ a, f1.f a = dnFn fs 1 p1 a1 f1.ins f1.outs a := by intro a; kernel_rfl
theorem t2 : ∀ a, f2.f a = dnFn fs 2 p2 a2 f2.ins f2.outs a := by intro a; kernel_rfl
theorem t3 : ∀ a, f3.f a = dnFn fs 3 p3 a3 f3.ins f3.outs a := by intro a; kernel_rfl
theorem t4 : ∀ a, f4.f a = dnFn fs 4 p4 a4 f4.ins f4.outs a := by intro a; kernel_rfl
theorem t5 : ∀ a, f5.f a = dnFn fs 5 p5 a5 f5.ins f5.outs a := by intro a; kernel_rfl
theorem t6 : ∀ a, f6.f a = dnFn fs 6 p6 a6 f6.ins f6.outs a := by intro a; kernel_rfl
theorem t7 : ∀ a, f7.f a = dnFn fs 7 p7 a7 f7.ins f7.outs a := by intro a; kernel_rfl
theorem t8 : ∀ a, f8.f a = dnFn fs 8 p8 a8 f8.ins f8.outs a := by intro a; kernel_rfl
theorem t9 : ∀ a, f9.f a = dnFn fs 9 p9 a9 f9.ins f9.outs a := by intro a; kernel_rfl
theorem t10 : ∀ a, f10.f a = dnFn fs 10 p10 a10 f10.ins f10.outs a := by intro a; kernel_rfl
theorem t11 : ∀ a, f11.f a = dnFn fs 11 p11 a11 f11.ins f11.outs a := by intro a; kernel_rfl
theorem t12 : ∀ a, f12.f a = dnFn fs 12 p12 a12 f12.ins f12.outs a := by intro a; kernel_rfl
theorem t13 : ∀ a, f13.f a = dnFn fs 13 p13 a13 f13.ins f13.outs a := by intro a; kernel_rfl
theorem t14 : ∀ a, f14.f a = dnFn fs 14 p14 a14 f14.ins f14.outs a := by intro a; kernel_rfl
theorem t15 : ∀ a, f15.f a = dnFn fs 15 p15 a15 f15.ins f15.outs a := by intro a; kernel_rfl
theorem t16 : ∀ a, f16.f a = dnFn fs 16 p16 a16 f16.ins f16.outs a := by intro a; kernel_rfl
theorem t17 : ∀ a, f17.f a = dnFn fs 17 p17 a17 f17.ins f17.outs a := by intro a; kernel_rfl
theorem t18 : ∀ a, f18.f a = dnFn fs 18 p18 a18 f18.ins f18.outs a := by intro a; kernel_rfl
theorem t19 : ∀ a, f19.f a = dnFn fs 19 p19 a19 f19.ins f19.outs a := by intro a; kernel_rfl
theorem t20 : ∀ a, f20.f a = dnFn fs 20 p20 a20 f20.ins f20.outs a := by intro a; kernel_rfl
theorem t21 : ∀ a, f21.f a = dnFn fs 21 p21 a21 f21.ins f21.outs a := by intro a; kernel_rfl
theorem t22 : ∀ a, f22.f a = dnFn fs 22 p22 a22 f22.ins f22.outs a := by intro a; kernel_rfl
theorem t23 : ∀ a, f23.f a = dnFn fs 23 p23 a23 f23.ins f23.outs a := by intro a; kernel_rfl
theorem t24 : ∀ a, f24.f a = dnFn fs 24 p24 a24 f24.ins f24.outs a := by intro a; kernel_rfl
theorem t25 : ∀ a, f25.f a = dnFn fs 25 p25 a25 f25.ins f25.outs a := by intro a; kernel_rfl
theorem t26 : ∀ a, f26.f a = dnFn fs 26 p26 a26 f26.ins f26.outs a := by intro a; kernel_rfl
theorem t27 : ∀ a, f27.f a = dnFn fs 27 p27 a27 f27.ins f27.outs a := by intro a; kernel_rfl
theorem t28 : ∀ a, f28.f a = dnFn fs 28 p28 a28 f28.ins f28.outs a := by intro a; kernel_rfl
theorem t29 : ∀ a, f29.f a = dnFn fs 29 p29 a29 f29.ins f29.outs a := by intro a; kernel_rfl
theorem t30 : ∀ a, f30.f a = dnFn fs 30 p30 a30 f30.ins f30.outs a := by intro a; kernel_rfl
theorem t31 : ∀ a, f31.f a = dnFn fs 31 p31 a31 f31.ins f31.outs a := by intro a; kernel_rfl
theorem t32 : ∀ a, f32.f a = dnFn fs 32 p32 a32 f32.ins f32.outs a := by intro a; kernel_rfl
theorem t33 : ∀ a, f33.f a = dnFn fs 33 p33 a33 f33.ins f33.outs a := by intro a; kernel_rfl
theorem t34 : ∀ a, f34.f a = dnFn fs 34 p34 a34 f34.ins f34.outs a := by intro a; kernel_rfl
theorem t35 : ∀ a, f35.f a = dnFn fs 35 p35 a35 f35.ins f35.outs a := by intro a; kernel_rfl
theorem t36 : ∀ a, f36.f a = dnFn fs 36 p36 a36 f36.ins f36.outs a := by intro a; kernel_rfl
theorem t37 : ∀ a, f37.f a = dnFn fs 37 p37 a37 f37.ins f37.outs a := by intro a; kernel_rfl
theorem t38 : ∀ a, f38.f a = dnFn fs 38 p38 a38 f38.ins f38.outs a := by intro a; kernel_rfl
theorem t39 : ∀ a, f39.f a = dnFn fs 39 p39 a39 f39.ins f39.outs a := by intro a; kernel_rfl
theorem t40 : ∀ a, f40.f a = dnFn fs 40 p40 a40 f40.ins f40.outs a := by intro a; kernel_rfl
theorem t41 : ∀ a, f41.f a = dnFn fs 41 p41 a41 f41.ins f41.outs a := by intro a; kernel_rfl
theorem t42 : ∀ a, f42.f a = dnFn fs 42 p42 a42 f42.ins f42.outs a := by intro a; kernel_rfl
theorem t43 : ∀ a, f43.f a = dnFn fs 43 p43 a43 f43.ins f43.outs a := by intro a; kernel_rfl
theorem t44 : ∀ a, f44.f a = dnFn fs 44 p44 a44 f44.ins f44.outs a := by intro a; kernel_rfl
theorem t45 : ∀ a, f45.f a = dnFn fs 45 p45 a45 f45.ins f45.outs a := by intro a; kernel_rfl
theorem t46 : ∀ a, f46.f a = dnFn fs 46 p46 a46 f46.ins f46.outs a := by intro a; kernel_rfl
theorem t47 : ∀ a, f47.f a = dnFn fs 47 p47 a47 f47.ins f47.outs a := by intro a; kernel_rfl
theorem t48 : ∀ a, f48.f a = dnFn fs 48 p48 a48 f48.ins f48.outs a := by intro a; kernel_rfl
theorem t49 : ∀ a, f49.f a = dnFn fs 49 p49 a49 f49.ins f49.outs a := by intro a; kernel_rfl
theorem t50 : ∀ a, f50.f a = dnFn fs 50 p50 a50 f50.ins f50.outs a := by intro a; kernel_rfl
theorem t51 : ∀ a, f51.f a = dnFn fs 51 p51 a51 f51.ins f51.outs a := by intro a; kernel_rfl
theorem t52 : ∀ a, f52.f a = dnFn fs 52 p52 a52 f52.ins f52.outs a := by intro a; kernel_rfl
theorem tf : ∀ j F, fs[j]? = some F → TfOk (sysOf ps) j F := all_tf (fs := fs) (ps := ps) (hs := [a0, a1, a2, a3, a4, a5, a6, a7, a8, a9, a10, a11, a12, a13, a14, a15, a16, a17, a18, a19, a20, a21, a22, a23, a24, a25, a26, a27, a28, a29, a30, a31, a32, a33, a34, a35, a36, a37, a38, a39, a40, a41, a42, a43, a44, a45, a46, a47, a48, a49, a50, a51, a52]) ⟨t0, t1, t2, t3, t4, t5, t6, t7, t8, t9, t10, t11, t12, t13, t14, t15, t16, t17, t18, t19, t20, t21, t22, t23, t24, t25, t26, t27, t28, t29, t30, t31, t32, t33, t34, t35, t36, t37, t38, t39, t40, t41, t42, t43, t44, t45, t46, t47, t48, t49, t50, t51, t52, trivial⟩
end Gp.Ytmimoddajeeioaa
