/- Gp: the laws' plain parts, out of their typed functions. -/
import Derived.Test.YtndojogdcmfjcaaDoorGpAFnCompact
import Derived.Test.YtndojogdcmfjcaaDoorGpSh5
import Derived.Test.YtndojogdcmfjcaaDoorShFnCompact
set_option maxRecDepth 100000
namespace Gp.YtndojogdcmfjcaaDoor
open Go Gp
def tisFnCompact : List TI := [(tab.get 22).getD default, (tab.get 22).getD default]
def zeroFnCompact : Array Value := #[(.slice none 0 0), (.slice none 0 0)]
theorem pureFnCompact : ∀ ds, WfDs tab (mkIns tisFnCompact 0 0).ks ds → CallI (sysOf ps) 55 ds [.bool true] :=
  pure_of (n := 8) (shs := [Sp.list (Sp.int (.u8)), Sp.list (Sp.int (.u8))]) (f := fun a => Sh.laws_FnCompact a.1 a.2) tf rfl (by kernel_rfl) (fun a h => Sh.laws_FnCompact_ok (byt_of h.1) (byt_of h.2))
end Gp.YtndojogdcmfjcaaDoor
