/- Gp: the seat's typed functions; each is the reading of its pure program (checked by the kernel). -/
import Derived.Test.YteclmpnfdbgigaaGpFFnExactNewConfig
import Derived.Test.YteclmpnfdbgigaaGpSh4
import Derived.Test.YteclmpnfdbgigaaShFnExactNewConfig
set_option maxRecDepth 100000
namespace Gp.Yteclmpnfdbgigaa
open Go Gp
abbrev As := @Ann.seq
abbrev Ai := @Ann.sis
abbrev Aq := @Ann.nil
abbrev Ac := @Ann.cond
abbrev Ab := @Ann.block
abbrev Al := @Ann.loop
abbrev i := Ty.int
abbrev b := Ty.bool
abbrev L := @Ty.list
abbrev P := @Ty.pair
abbrev S := Ty.str
def a0 : Ann := As (Ai []) (As (Ai [b]) Aq)
noncomputable def f0 : Fn := ⟨[i, i, i], [b], fun a => Sh.spec_l1In a.1 a.2.1 a.2.2⟩
def a1 : Ann := As (Ai []) (As (Ai []) Aq)
noncomputable def f1 : Fn := ⟨[i], [b], fun a => Sh.spec_l8Nodes a⟩
def a2 : Ann := As (Ai []) (As (Ai []) (As (Ab (some (2, [i])) false (As (Ai [i]) (Al 2 [i] [(0, 2)] [[i]] (As (As (As (Ai [b]) (Ac none true Aq (As (Ai [i]) Aq))) (Ab (some (4, [])) false (As (Ai []) (Ai [])))) (Ai [i]))))) (As (Ai []) (As (Ai [L i]) (As (Ai [L i, L i]) (As (Ai [L i]) Aq))))))
noncomputable def f2 : Fn := ⟨[L i, i], [L i], fun a => Sh.spec_l9Put a.1 a.2⟩
def a3 : Ann := As (Ai []) (As (As (Ai [b, b]) (Ac none true (As (Ai []) Aq) Aq)) (As (Ai []) (As (As (Ai []) (Ab (some (8, [L (P i (L i))])) false (As (Ai [L (P i (L i)), i]) (Al 8 [L (P i (L i)), i] [(0, 8)] [[L (P i (L i))]] (As (As (As (Ai []) (Ac none true Aq (As (Ai [L (P i (L i))]) Aq))) (As (Ab (some (10, [L (P i (L i))])) false (As (As (Ai []) (As (As (Ai []) (Ab (some (10, [L i])) false (As (Ai [L i, i]) (Al 10 [L i, i] [(2, 10)] [[L i]] (As (As (As (Ai []) (Ac none true Aq (As (Ai [L i]) Aq))) (As (Ab (some (12, [L i])) false (As (Ai []) (Ai [L i]))) (Ai []))) (Ai [L i, i])))))) (Ai [L (P i (L i)), L (P i (L i))]))) (Ai [L (P i (L i))]))) (Ai []))) (Ai [L (P i (L i)), i])))))) (As (Ai []) Aq))))
noncomputable def f3 : Fn := ⟨[i, i, i], [i, L (P i (L i)), b], fun a => Sh.spec_NewConfig a.1 a.2.1 a.2.2⟩
def a4 : Ann := As (Ai []) (As (Ai [b]) Aq)
noncomputable def f4 : Fn := ⟨[i, i, i], [b], fun a => Sh.impl_in a.1 a.2.1 a.2.2⟩
def a5 : Ann := As (Ai []) (As (As (Ai []) (Ac (some (1, [i, i])) false (As (As (Ai []) (Ai [])) (Ai [i, i])) (As Aq (Ai [i, i])))) (As (As (Ai []) (Ac (some (3, [i, i])) false (As (As (Ai []) (Ai [])) (Ai [i, i])) (As Aq (Ai [i, i])))) (As (Ai []) Aq)))
noncomputable def f5 : Fn := ⟨[i], [i], fun a => Sh.math_bits_Len32 a⟩
def a6 : Ann := As (Ai []) (As (As (Ai []) (Ac (some (1, [i, i])) false (As (As (Ai []) (Ai [])) (Ai [i, i])) (As Aq (Ai [i, i])))) (As (As (Ai []) (Ac (some (3, [i, i])) false (As (As (Ai []) (Ai [])) (Ai [i, i])) (As Aq (Ai [i, i])))) (As (As (Ai []) (Ac (some (5, [i, i])) false (As (As (Ai []) (Ai [])) (Ai [i, i])) (As Aq (Ai [i, i])))) (As (Ai []) Aq))))
noncomputable def f6 : Fn := ⟨[i], [i], fun a => Sh.math_bits_Len64 a⟩
def a7 : Ann := As (Ai []) (As (Ac none true (As (Ai []) Aq) Aq) (As (Ai []) Aq))
noncomputable def f7 : Fn := ⟨[i], [i], fun a => Sh.math_bits_Len a⟩
def a8 : Ann := As (Ai []) (As (Ai []) Aq)
noncomputable def f8 : Fn := ⟨[i], [b], fun a => Sh.cmp_isNaN_int a⟩
def a9 : Ann := As (Ai []) (As (Ai [b, b]) Aq)
noncomputable def f9 : Fn := ⟨[i, i], [b], fun a => Sh.cmp_Less_int a.1 a.2⟩
def a10 : Ann := As (As (Ai []) (Ab (some (3, [L i])) false (As (Ai [L i, i]) (Al 3 [L i, i] [(0, 3)] [[L i]] (As (As (As (Ai []) (Ac none true Aq (As (Ai [L i]) Aq))) (As (Ab (some (5, [L i])) false (As (As (Ai []) (Ab (some (5, [L i])) false (As (Ai [L i, i]) (Al 5 [L i, i] [(2, 5)] [[L i]] (As (As (As (Ai [b]) (Ac none true Aq (As (Ai [L i]) Aq))) (As (Ab (some (9, [L i])) false (As (Ai [L i, L i]) (Ai [L i]))) (Ai []))) (Ai [L i, i])))))) (Ai [L i]))) (Ai []))) (Ai [L i, i])))))) Aq
noncomputable def f10 : Fn := ⟨[L i, i, i], [L i], fun a => Sh.slices_insertionSortOrdered_int a.1 a.2.1 a.2.2⟩
def a11 : Ann := As (Ai []) (As (Ai []) (Ab none true (As (Ai []) (Al 4 [] [] [[L i]] (Ab none true (As (Ai []) (As (As (Ai []) (Ac none true (As (Ai []) Aq) Aq)) (As (Ai []) Aq))))))))
noncomputable def f11 : Fn := ⟨[L i, i, i, i], [L i], fun a => Sh.slices_pdqsortOrdered_int a.1 a.2.1 a.2.2.1 a.2.2.2⟩
def a12 : Ann := As (As (Ai []) (Ai [])) Aq
noncomputable def f12 : Fn := ⟨[L i], [L i], fun a => Sh.slices_Sort__int_int a⟩
def a13 : Ann := As (Ai []) (As (As (Ai [b, b]) (Ac none true (As (Ai []) Aq) Aq)) (As (Ai []) (As (As (Ai []) (Ab (some (8, [L (P i (L i))])) false (As (Ai [L (P i (L i)), i]) (Al 8 [L (P i (L i)), i] [(0, 8)] [[L (P i (L i))]] (As (As (Ai []) (As (Ac none true Aq (As (Ai [L (P i (L i))]) Aq)) (As (Ab (some (10, [L (P i (L i))])) false (As (As (Ai []) (As (Ai []) (As (As (Ai []) (Ab (some (10, [L i])) false (As (Ai [L i, i]) (Al 10 [L i, i] [(2, 10)] [[L i]] (As (As (As (Ai []) (Ac none true Aq (As (Ai [L i]) Aq))) (As (Ab (some (12, [L i])) false (As (Ai [L i, L i]) (Ai [L i]))) (Ai []))) (Ai [L i, i])))))) (As (Ai []) (Ai [L (P i (L i)), L (P i (L i))]))))) (Ai [L (P i (L i))]))) (Ai [])))) (Ai [L (P i (L i)), i])))))) (As (Ai []) Aq))))
noncomputable def f13 : Fn := ⟨[i, i, i], [i, L (P i (L i)), b], fun a => Sh.impl_newConfig a.1 a.2.1 a.2.2⟩
def a14 : Ann := As (Ai []) (As (Ai []) Aq)
noncomputable def f14 : Fn := ⟨[i, i, i], [i, L (P i (L i)), b], fun a => Sh.impl_NewConfig a.1 a.2.1 a.2.2⟩
def a15 : Ann := As (Ai []) (As (As (Ai []) (Ac none true (As (Ai []) Aq) Aq)) (As (As (Ai []) (Ab (some (2, [])) true (As (Ai [i]) (Al 2 [i] [(0, 2)] [[], [b]] (As (As (As (Ai []) (Ac none true Aq (As (Ai []) Aq))) (As (Ab (some (3, [])) true (As (As (Ai []) (Ac none true (As (Ai []) Aq) Aq)) (Ai []))) (Ai []))) (Ai [i])))))) (As (Ai []) Aq)))
noncomputable def f15 : Fn := ⟨[L i, L i], [b], fun a => Sh.laws_eqIntS a.1 a.2⟩
def a16 : Ann := As (Ai []) (As (As (Ai []) (Ac none true (As (Ai []) Aq) Aq)) (As (As (Ai []) (Ac none true (As (Ai []) Aq) Aq)) (As (Ai []) Aq)))
noncomputable def f16 : Fn := ⟨[i, L i, i, L i], [b], fun a => Sh.laws_eqHome a.1 a.2.1 a.2.2.1 a.2.2.2⟩
def a17 : Ann := As (Ai []) (As (As (Ai []) (Ac none true (As (Ai []) Aq) Aq)) (As (As (Ai []) (Ab (some (2, [])) true (As (Ai [i]) (Al 2 [i] [(0, 2)] [[], [b]] (As (As (As (Ai []) (Ac none true Aq (As (Ai []) Aq))) (As (Ab (some (3, [])) true (As (As (Ai [P i (L i), P i (L i)]) (Ac none true (As (Ai []) Aq) Aq)) (Ai []))) (Ai []))) (Ai [i])))))) (As (Ai []) Aq)))
noncomputable def f17 : Fn := ⟨[L (P i (L i)), L (P i (L i))], [b], fun a => Sh.laws_eqHomeS a.1 a.2⟩
def a18 : Ann := As (Ai []) (As (As (Ai []) (Ac none true (As (Ai []) Aq) Aq)) (As (As (Ai []) (Ac none true (As (Ai []) Aq) Aq)) (As (As (Ai []) (Ac none true (As (Ai []) Aq) Aq)) (As (Ai []) Aq))))
noncomputable def f18 : Fn := ⟨[i, L i, L (P i (L i)), i, L i, L (P i (L i))], [b], fun a => Sh.laws_eqConfig a.1 a.2.1 a.2.2.1 a.2.2.2.1 a.2.2.2.2.1 a.2.2.2.2.2⟩
def a19 : Ann := As (Ai []) (As (As (Ai []) (Ab (some (2, [L i, i])) false (As (Ai [L i, i, i]) (Al 2 [L i, i, i] [(0, 2)] [[L i, i]] (As (As (As (Ai []) (Ac none true Aq (As (Ai [L i, i]) Aq))) (As (Ab (some (5, [L i])) false (As (As (Ai [L i]) (Ai [])) (Ai [L i]))) (Ai []))) (Ai [L i, i, i])))))) (As (Ai []) Aq))
noncomputable def f19 : Fn := ⟨[L i, i], [L i, i], fun a => Sh.laws_markIntS a.1 a.2⟩
def a20 : Ann := As (Ai []) (As (As (Ai []) (Ab (some (2, [L (P i (L i)), i])) false (As (Ai [L (P i (L i)), i, i]) (Al 2 [L (P i (L i)), i, i] [(0, 2)] [[L (P i (L i)), i]] (As (As (As (Ai []) (Ac none true Aq (As (Ai [L (P i (L i)), i]) Aq))) (As (Ab (some (5, [L (P i (L i)), i])) false (As (As (Ai [L (P i (L i))]) (As (Ai []) (Ai [L (P i (L i)), L i, L (P i (L i))]))) (Ai [L (P i (L i)), i]))) (Ai []))) (Ai [L (P i (L i)), i, i])))))) (As (Ai []) Aq))
noncomputable def f20 : Fn := ⟨[L (P i (L i)), i], [L (P i (L i)), i], fun a => Sh.laws_markHomeS a.1 a.2⟩
def a21 : Ann := As (Ai []) (As (Ai []) (As (Ai []) (As (Ai []) Aq)))
noncomputable def f21 : Fn := ⟨[i, L i, L (P i (L i)), i], [L i, L (P i (L i)), i], fun a => Sh.laws_markConfig a.1 a.2.1 a.2.2.1 a.2.2.2⟩
def a22 : Ann := As (Ai []) (As (As (Ai []) (Ab (some (2, [i])) true (As (Ai [i, i]) (Al 2 [i, i] [(0, 2)] [[i], [i]] (As (As (As (Ai []) (Ac none true Aq (As (Ai [i]) Aq))) (As (Ab (some (4, [])) true (As (As (As (Ai []) (Ac none true (As (Ai []) Aq) Aq)) (Ai [])) (Ai []))) (Ai []))) (Ai [i, i])))))) (As (Ai []) Aq))
noncomputable def f22 : Fn := ⟨[L i, i], [i], fun a => Sh.laws_heldIntS a.1 a.2⟩
def a23 : Ann := As (Ai []) (As (As (Ai []) (Ab (some (2, [i])) true (As (Ai [i, i]) (Al 2 [i, i] [(0, 2)] [[i], [i]] (As (As (As (Ai []) (Ac none true Aq (As (Ai [i]) Aq))) (As (Ab (some (4, [i])) true (As (As (As (Ai []) (Ac none true (As (Ai []) Aq) Aq)) (As (Ai []) (As (Ai []) (As (Ai []) (Ac none true (As (Ai []) Aq) Aq))))) (Ai [i]))) (Ai []))) (Ai [i, i])))))) (As (Ai []) Aq))
noncomputable def f23 : Fn := ⟨[L (P i (L i)), i], [i], fun a => Sh.laws_heldHomeS a.1 a.2⟩
def a24 : Ann := As (Ai []) (As (Ai []) (As (As (Ai []) (Ac none true (As (Ai []) Aq) Aq)) (As (Ai []) (As (As (Ai []) (Ac none true (As (Ai []) Aq) Aq)) (As (Ai []) Aq)))))
noncomputable def f24 : Fn := ⟨[i, L i, L (P i (L i)), i], [i], fun a => Sh.laws_heldConfig a.1 a.2.1 a.2.2.1 a.2.2.2⟩
def a25 : Ann := As (Ai []) (As (Ai []) (As (Ai []) (As (As (Ai [b]) (Ac none true (As (Ai []) Aq) Aq)) (As (Ai []) (As (Ai []) (As (Ai []) (As (Ai []) (As (As (Ai []) (Ac none true (As (Ai []) Aq) Aq)) (As (As (Ai []) (Ac none true (As (Ai []) Aq) Aq)) (As (Ai []) (As (As (Ai [b]) (Ac none true (As (Ai []) Aq) Aq)) (As (Ai []) (As (Ai []) (As (As (Ai []) (Ac none true (As (Ai []) Aq) Aq)) (As (As (Ai []) (Ac none true (As (Ai []) Aq) Aq)) (As (Ai []) Aq))))))))))))))))
noncomputable def f25 : Fn := ⟨[i, i, i], [b], fun a => Sh.laws_FnExactNewConfig a.1 a.2.1 a.2.2⟩
noncomputable def fs : List Fn := [f0, f1, f2, f3, f4, f5, f6, f7, f8, f9, f10, f11, f12, f13, f14, f15, f16, f17, f18, f19, f20, f21, f22, f23, f24, f25]
theorem t0 : ∀ a, f0.f a = dnFn fs 0 p0 a0 f0.ins f0.outs a := by intro a; kernel_rfl
theorem t1 : ∀ a, f1.f a = dnFn fs 1 p1 a1 f1.ins f1.outs a := by intro a; kernel_rfl
theorem t2 : ∀ a, f2.f a = dnFn fs 2 p2 a2 f2.ins f2.outs a := by intro a; kernel_rfl
theorem t3 : ∀ a, f3.f a = dnFn fs 3 p3 a3 f3.ins f3.outs a := by intro a; kernel_rfl
theorem t4 : ∀ a, f4.f a = dnFn fs 4 p4 a4 f4.ins f4.outs a := by intro a; kernel_rfl
theorem t5 : ∀ a, f5.f a = dnFn fs 5 p5 a5 f5.ins f5.outs a := by intro a; kernel_rfl
theorem t6 : ∀ a, f6.f a = dnFn fs 6 p6 a6 f6.ins f6.outs a := by intro a; kernel_rfl
theorem t7 : ∀ a, f7.f a = dnFn fs 7 p7 a7 f7.ins f7.outs a := by intro a; kernel_rfl
theorem t8 : ∀ a, f8.f a = dnFn fs 8 p8 a8 f8.ins f8.outs a := by intro a; kernel_rfl
theorem t9 : ∀ a, f9.f a = dnFn fs 9 p9 a9 f9.ins f9.outs a := by intro a; kernel_rfl
theorem t10 : ∀ a, f10.f a = dnFn fs 10 p10 a10 f10.ins f10.outs a := by intro a; kernel_rfl
theorem t11 : ∀ a, f11.f a = dnFn fs 11 p11 a11 f11.ins f11.outs a := by intro a; kernel_rfl
theorem t12 : ∀ a, f12.f a = dnFn fs 12 p12 a12 f12.ins f12.outs a := by intro a; kernel_rfl
theorem t13 : ∀ a, f13.f a = dnFn fs 13 p13 a13 f13.ins f13.outs a := by intro a; kernel_rfl
theorem t14 : ∀ a, f14.f a = dnFn fs 14 p14 a14 f14.ins f14.outs a := by intro a; kernel_rfl
theorem t15 : ∀ a, f15.f a = dnFn fs 15 p15 a15 f15.ins f15.outs a := by intro a; kernel_rfl
theorem t16 : ∀ a, f16.f a = dnFn fs 16 p16 a16 f16.ins f16.outs a := by intro a; kernel_rfl
theorem t17 : ∀ a, f17.f a = dnFn fs 17 p17 a17 f17.ins f17.outs a := by intro a; kernel_rfl
theorem t18 : ∀ a, f18.f a = dnFn fs 18 p18 a18 f18.ins f18.outs a := by intro a; kernel_rfl
theorem t19 : ∀ a, f19.f a = dnFn fs 19 p19 a19 f19.ins f19.outs a := by intro a; kernel_rfl
theorem t20 : ∀ a, f20.f a = dnFn fs 20 p20 a20 f20.ins f20.outs a := by intro a; kernel_rfl
theorem t21 : ∀ a, f21.f a = dnFn fs 21 p21 a21 f21.ins f21.outs a := by intro a; kernel_rfl
theorem t22 : ∀ a, f22.f a = dnFn fs 22 p22 a22 f22.ins f22.outs a := by intro a; kernel_rfl
theorem t23 : ∀ a, f23.f a = dnFn fs 23 p23 a23 f23.ins f23.outs a := by intro a; kernel_rfl
theorem t24 : ∀ a, f24.f a = dnFn fs 24 p24 a24 f24.ins f24.outs a := by intro a; kernel_rfl
theorem t25 : ∀ a, f25.f a = dnFn fs 25 p25 a25 f25.ins f25.outs a := by intro a; kernel_rfl
theorem tf : ∀ j F, fs[j]? = some F → TfOk (sysOf ps) j F := all_tf (fs := fs) (ps := ps) (hs := [a0, a1, a2, a3, a4, a5, a6, a7, a8, a9, a10, a11, a12, a13, a14, a15, a16, a17, a18, a19, a20, a21, a22, a23, a24, a25]) ⟨t0, t1, t2, t3, t4, t5, t6, t7, t8, t9, t10, t11, t12, t13, t14, t15, t16, t17, t18, t19, t20, t21, t22, t23, t24, t25, trivial⟩
end Gp.Yteclmpnfdbgigaa
