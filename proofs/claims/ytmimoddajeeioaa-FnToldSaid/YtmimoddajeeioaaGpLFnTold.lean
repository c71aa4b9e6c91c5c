/- Gp: the laws' plain parts, out of their typed functions. -/
import Derived.Test.YtmimoddajeeioaaGpAFnTold
import Derived.Test.YtmimoddajeeioaaGpSh5
import Derived.Test.YtmimoddajeeioaaShFnTold
set_option maxRecDepth 100000
namespace Gp.Ytmimoddajeeioaa
open Go Gp
def tisFnTold : List TI := [(tab.get 22).getD default, (tab.get 22).getD default]
def zeroFnTold : Array Value := #[(.slice none 0 0), (.slice none 0 0)]
theorem pureFnTold : ∀ ds, WfDs tab (mkIns tisFnTold 0 0).ks ds → CallI (sysOf ps) 52 ds [.bool true] :=
  pure_of (n := 8) (shs := [Sp.list (Sp.int (.u8)), Sp.list (Sp.int (.u8))]) (f := fun a => Sh.laws_FnTold a.1 a.2) tf rfl (by kernel_rfl) (fun a h => Sh.laws_FnTold_ok (byt_of h.1) (byt_of h.2))
end Gp.Ytmimoddajeeioaa
