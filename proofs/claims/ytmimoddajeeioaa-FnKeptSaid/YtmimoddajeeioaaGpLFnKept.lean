/- Gp: the laws' plain parts, out of their typed functions. -/
import Derived.Test.YtmimoddajeeioaaGpAFnKept
import Derived.Test.YtmimoddajeeioaaGpSh5
import Derived.Test.YtmimoddajeeioaaShFnKept
set_option maxRecDepth 100000
namespace Gp.Ytmimoddajeeioaa
open Go Gp
def tisFnKept : List TI := [(tab.get 22).getD default]
def zeroFnKept : Array Value := #[(.slice none 0 0)]
theorem pureFnKept : ∀ ds, WfDs tab (mkIns tisFnKept 0 0).ks ds → CallI (sysOf ps) 46 ds [.bool true] :=
  pure_of (n := 8) (shs := [Sp.list (Sp.int (.u8))]) (f := fun a => Sh.laws_FnKept a) tf rfl (by kernel_rfl) (fun a h => Sh.laws_FnKept_ok (byt_of h))
end Gp.Ytmimoddajeeioaa
