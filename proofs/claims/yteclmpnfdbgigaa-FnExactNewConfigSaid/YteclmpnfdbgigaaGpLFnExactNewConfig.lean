/- Gp: the laws' plain parts, out of their typed functions. -/
import Derived.Test.YteclmpnfdbgigaaGpAFnExactNewConfig
import Derived.Test.YteclmpnfdbgigaaGpSh5
import Derived.Test.YteclmpnfdbgigaaShFnExactNewConfig
set_option maxRecDepth 100000
namespace Gp.Yteclmpnfdbgigaa
open Go Gp
def tisFnExactNewConfig : List TI := [(tab.get 3).getD default, (tab.get 3).getD default, (tab.get 3).getD default]
def zeroFnExactNewConfig : Array Value := #[(.int .i64 0), (.int .i64 0), (.int .i64 0)]
theorem pureFnExactNewConfig : ∀ ds, WfDs tab (mkIns tisFnExactNewConfig 0 0).ks ds → CallI (sysOf ps) 25 ds [.bool true] :=
  pure_of (n := 8) (shs := [Sp.int (.i64), Sp.int (.i64), Sp.int (.i64)]) (f := fun a => Sh.laws_FnExactNewConfig a.1 a.2.1 a.2.2) tf rfl (by kernel_rfl) (fun a h => Sh.laws_FnExactNewConfig_ok a.1 a.2.1 a.2.2)
end Gp.Yteclmpnfdbgigaa
