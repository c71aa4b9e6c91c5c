/- Gp: the laws' plain parts, out of their typed functions. -/
import Derived.Test.YteclmpnfdbgigaaGpAFnExactStepConfig
import Derived.Test.YteclmpnfdbgigaaGpSh5
import Derived.Test.YteclmpnfdbgigaaShFnExactStepConfig
set_option maxRecDepth 100000
namespace Gp.Yteclmpnfdbgigaa
open Go Gp
def tisFnExactStepConfig : List TI := [(tab.get 60).getD default, (tab.get 62).getD default]
def zeroFnExactStepConfig : Array Value := #[(.agg #[(.int .i64 0), (.slice none 0 0), (.slice none 0 0)]), (.agg #[(.int .i64 0), (.int .i64 0)])]
theorem pureFnExactStepConfig : ∀ ds, WfDs tab (mkIns tisFnExactStepConfig 0 0).ks ds → CallI (sysOf ps) 64 ds [.bool true] :=
  pure_of (n := 8) (shs := [Sp.int (.i64), Sp.list (Sp.int (.i64)), Sp.list (Sp.pair (Sp.int (.i64)) (Sp.list (Sp.int (.i64)))), Sp.int (.i64), Sp.int (.i64)]) (f := fun a => Sh.laws_FnExactStepConfig a.1 a.2.1 a.2.2.1 a.2.2.2.1 a.2.2.2.2) tf rfl (by kernel_rfl) (fun a h => Sh.laws_FnExactStepConfig_ok (x := (a.1, a.2.1, a.2.2.1)) ⟨h.1, h.2.1, h.2.2.1⟩)
end Gp.Yteclmpnfdbgigaa
