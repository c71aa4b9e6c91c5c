/- Gp: the laws' plain parts, out of their typed functions. -/
import Derived.Test.YthphbnfgkmohpaaGpAFnExactStepSynod
import Derived.Test.YthphbnfgkmohpaaGpSh5
import Derived.Test.YthphbnfgkmohpaaShFnExactStepSynod
set_option maxRecDepth 100000
namespace Gp.Ythphbnfgkmohpaa
open Go Gp
def tisFnExactStepSynod : List TI := [(tab.get 47).getD default, (tab.get 49).getD default]
def zeroFnExactStepSynod : Array Value := #[(.agg #[(.slice none 0 0), (.slice none 0 0)]), (.agg #[(.bool false), (.int .i64 0), (.int .i64 0)])]
theorem pureFnExactStepSynod : ∀ ds, WfDs tab (mkIns tisFnExactStepSynod 0 0).ks ds → CallI (sysOf ps) 65 ds [.bool true] :=
  pure_of (n := 8) (shs := [Sp.list (Sp.pair (Sp.int (.i64)) (Sp.pair (Sp.int (.i64)) (Sp.str))), Sp.list (Sp.pair (Sp.str) (Sp.pair (Sp.list (Sp.pair (Sp.int (.i64)) (Sp.pair (Sp.int (.i64)) (Sp.str)))) (Sp.pair (Sp.bool) (Sp.pair (Sp.str) (Sp.list (Sp.int (.i64))))))), Sp.bool, Sp.int (.i64), Sp.int (.i64)]) (f := fun a => Sh.laws_FnExactStepSynod a.1 a.2.1 a.2.2.1 a.2.2.2.1 a.2.2.2.2) tf rfl (by kernel_rfl) (fun a h => Sh.laws_FnExactStepSynod_ok (s := (a.1, a.2.1)) (x := a.2.2) ⟨h.1, h.2.1⟩)
end Gp.Ythphbnfgkmohpaa
