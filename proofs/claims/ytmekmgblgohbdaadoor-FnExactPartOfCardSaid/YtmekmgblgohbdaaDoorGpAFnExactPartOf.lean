/- Gp: the seat's typed functions; each is the reading of its pure program (checked by the kernel). -/
import Derived.Test.YtmekmgblgohbdaaDoorGpFFnExactPartOf
import Derived.Test.YtmekmgblgohbdaaDoorGpSh4
import Derived.Test.YtmekmgblgohbdaaDoorShFnExactPartOf
set_option maxRecDepth 100000
namespace Gp.YtmekmgblgohbdaaDoor
open Go Gp
abbrev As := @Ann.seq
abbrev Ai := @Ann.sis
abbrev Aq := @Ann.nil
abbrev Ac := @Ann.cond
abbrev Ab := @Ann.block
abbrev Al := @Ann.loop
abbrev i := Ty.int
abbrev b := Ty.bool
abbrev L := @Ty.list
abbrev P := @Ty.pair
abbrev S := Ty.str
def a0 : Ann := As (Ai []) (As (Ai [b]) Aq)
noncomputable def f0 : Fn := ⟨[i, i, i], [b], fun a => Sh.spec_l1In a.1 a.2.1 a.2.2⟩
def a1 : Ann := As (Ai []) (As (As (Ai []) (Ab (some (1, [])) true (As (Ai [i]) (Al 1 [i] [(0, 1)] [[], [b]] (As (As (As (Ai []) (Ac none true Aq (As (Ai []) Aq))) (As (Ab (some (2, [])) true (As (As (Ai []) (As (Ai [b, b, b]) (Ac none true (As (Ai []) Aq) Aq))) (Ai []))) (Ai []))) (Ai [i])))))) (As (Ai []) Aq))
noncomputable def f1 : Fn := ⟨[S], [b], fun a => Sh.spec_l1Key a⟩
def a2 : Ann := As (Ai []) (As (As (Ai [b]) (Ac none true (As (Ai []) Aq) Aq)) (As (Ai []) (As (As (Ai []) (Ab (some (5, [i])) false (As (Ai [i, i]) (Al 5 [i, i] [(0, 5)] [[i]] (As (As (As (Ai []) (Ac none true Aq (As (Ai [i]) Aq))) (As (Ab (some (7, [])) false (As (Ai []) (Ai []))) (Ai []))) (Ai [i, i])))))) (As (Ai []) Aq))))
noncomputable def f2 : Fn := ⟨[S, i], [i, b], fun a => Sh.spec_PartOf a.1 a.2⟩
def a3 : Ann := As (Ai []) Aq
noncomputable def f3 : Fn := ⟨[S, S], [S], fun a => Sh.strings_Trim a.1 a.2⟩
def a4 : Ann := As (Ai []) (As (Ai [b, b]) Aq)
noncomputable def f4 : Fn := ⟨[S], [b], fun a => Sh.impl_isKey a⟩
def a5 : Ann := As (Ai []) (As (Ai [b]) Aq)
noncomputable def f5 : Fn := ⟨[i, i, i], [b], fun a => Sh.impl_in a.1 a.2.1 a.2.2⟩
def a6 : Ann := As (Ai []) (As (As (Ai [b]) (Ac none true (As (Ai []) Aq) Aq)) (As (Ai []) (As (As (Ai []) (Ab (some (5, [i])) false (As (Ai [i, i]) (Al 5 [i, i] [(0, 5)] [[i]] (As (As (Ai []) (As (Ac none true Aq (As (Ai [i]) Aq)) (As (Ab (some (7, [])) false (As (As (Ai []) (Ai [])) (Ai []))) (Ai [])))) (Ai [i, i])))))) (As (Ai []) Aq))))
noncomputable def f6 : Fn := ⟨[S, i], [i, b], fun a => Sh.impl_PartOf a.1 a.2⟩
def a7 : Ann := As (Ai []) (As (As (Ai []) (Ac none true (As (Ai []) Aq) Aq)) (As (Ai []) (As (Ai []) (As (As (Ai [b]) (Ac none true (As (Ai []) Aq) Aq)) (As (Ai []) Aq)))))
noncomputable def f7 : Fn := ⟨[S, i], [b], fun a => Sh.laws_FnExactPartOf a.1 a.2⟩
noncomputable def fs : List Fn := [f0, f1, f2, f3, f4, f5, f6, f7]
theorem t0 : ∀ a, f0.f a = dnFn fs 0 p0 a0 f0.ins f0.outs a := by intro a; kernel_rfl
theorem t1 : ∀ a, f1.f a = dnFn fs 1 p1 a1 f1.ins f1.outs a := by intro a; kernel_rfl
theorem t2 : ∀ a, f2.f a = dnFn fs 2 p2 a2 f2.ins f2.outs a := by intro a; kernel_rfl
theorem t3 : ∀ a, f3.f a = dnFn fs 3 p3 a3 f3.ins f3.outs a := by intro a; kernel_rfl
theorem t4 : ∀ a, f4.f a = dnFn fs 4 p4 a4 f4.ins f4.outs a := by intro a; kernel_rfl
theorem t5 : ∀ a, f5.f a = dnFn fs 5 p5 a5 f5.ins f5.outs a := by intro a; kernel_rfl
theorem t6 : ∀ a, f6.f a = dnFn fs 6 p6 a6 f6.ins f6.outs a := by intro a; kernel_rfl
theorem t7 : ∀ a, f7.f a = dnFn fs 7 p7 a7 f7.ins f7.outs a := by intro a; kernel_rfl
theorem tf : ∀ j F, fs[j]? = some F → TfOk (sysOf ps) j F := all_tf (fs := fs) (ps := ps) (hs := [a0, a1, a2, a3, a4, a5, a6, a7]) ⟨t0, t1, t2, t3, t4, t5, t6, t7, trivial⟩
end Gp.YtmekmgblgohbdaaDoor
