/- Gp: the laws' plain parts, out of their typed functions. -/
import Derived.Test.YteclmpnfdbgigaaGpAFnExactPlayConfig
import Derived.Test.YteclmpnfdbgigaaGpSh5
import Derived.Test.YteclmpnfdbgigaaShFnExactPlayConfig
set_option maxRecDepth 100000
namespace Gp.Yteclmpnfdbgigaa
open Go Gp
def tisFnExactPlayConfig : List TI := [(tab.get 3).getD default, (tab.get 3).getD default, (tab.get 3).getD default, (tab.get 46).getD default]
def zeroFnExactPlayConfig : Array Value := #[(.int .i64 0), (.int .i64 0), (.int .i64 0), (.slice none 0 0)]
theorem pureFnExactPlayConfig : ∀ ds, WfDs tab (mkIns tisFnExactPlayConfig 0 0).ks ds → CallI (sysOf ps) 55 ds [.bool true] :=
  pure_of (n := 8) (shs := [Sp.int (.i64), Sp.int (.i64), Sp.int (.i64), Sp.list (Sp.pair (Sp.int (.i64)) (Sp.int (.i64)))]) (f := fun a => Sh.laws_FnExactPlayConfig a.1 a.2.1 a.2.2.1 a.2.2.2) tf rfl (by kernel_rfl) (fun a h => Sh.laws_FnExactPlayConfig_ok h.2.2.2)
end Gp.Yteclmpnfdbgigaa
