/- Gp: the laws' plain parts, out of their typed functions. -/
import Derived.Test.YtmimoddajeeioaaGpAFnPicture
import Derived.Test.YtmimoddajeeioaaGpSh5
import Derived.Test.YtmimoddajeeioaaShFnPicture
set_option maxRecDepth 100000
namespace Gp.Ytmimoddajeeioaa
open Go Gp
def tisFnPicture : List TI := [(tab.get 22).getD default]
def zeroFnPicture : Array Value := #[(.slice none 0 0)]
theorem pureFnPicture : ∀ ds, WfDs tab (mkIns tisFnPicture 0 0).ks ds → CallI (sysOf ps) 48 ds [.bool true] :=
  pure_of (n := 8) (shs := [Sp.list (Sp.int (.u8))]) (f := fun a => Sh.laws_FnPicture a) tf rfl (by kernel_rfl) (fun a h => Sh.laws_FnPicture_ok (byt_of h))
end Gp.Ytmimoddajeeioaa
