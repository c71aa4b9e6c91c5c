/- Gp: the laws' plain parts, out of their typed functions. -/
import Derived.Test.YtmimoddajeeioaaGpAFnExactPlayNet
import Derived.Test.YtmimoddajeeioaaGpSh5
import Derived.Test.YtmimoddajeeioaaShFnExactPlayNet
set_option maxRecDepth 100000
namespace Gp.Ytmimoddajeeioaa
open Go Gp
def tisFnExactPlayNet : List TI := [(tab.get 23).getD default, (tab.get 80).getD default]
def zeroFnExactPlayNet : Array Value := #[(.slice none 0 0), (.slice none 0 0)]
theorem pureFnExactPlayNet : ∀ ds, WfDs tab (mkIns tisFnExactPlayNet 0 0).ks ds → CallI (sysOf ps) 51 ds [.bool true] :=
  pure_of (n := 8) (shs := [Sp.list (Sp.int (.i64)), Sp.list (Sp.pair (Sp.int (.i64)) (Sp.pair (Sp.int (.i64)) (Sp.pair (Sp.int (.i64)) (Sp.int (.i64)))))]) (f := fun a => Sh.laws_FnExactPlayNet a.1 a.2) tf rfl (by kernel_rfl) (fun a h => Sh.laws_FnExactPlayNet_ok (v := a.1) (l := a.2) h.1 h.2)
end Gp.Ytmimoddajeeioaa
