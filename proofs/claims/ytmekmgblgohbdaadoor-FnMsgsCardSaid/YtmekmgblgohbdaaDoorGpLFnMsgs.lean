/- Gp: the laws' plain parts, out of their typed functions. -/
import Derived.Test.YtmekmgblgohbdaaDoorGpAFnMsgs
import Derived.Test.YtmekmgblgohbdaaDoorGpSh5
import Derived.Test.YtmekmgblgohbdaaDoorShFnMsgs
set_option maxRecDepth 100000
namespace Gp.YtmekmgblgohbdaaDoor
open Go Gp
def tisFnMsgs : List TI := [(tab.get 25).getD default, (tab.get 25).getD default]
def zeroFnMsgs : Array Value := #[(.slice none 0 0), (.slice none 0 0)]
theorem pureFnMsgs : ∀ ds, WfDs tab (mkIns tisFnMsgs 0 0).ks ds → CallI (sysOf ps) 42 ds [.bool true] :=
  pure_of (n := 8) (shs := [Sp.list (Sp.int (.u8)), Sp.list (Sp.int (.u8))]) (f := fun a => Sh.laws_FnMsgs a.1 a.2) tf rfl (by kernel_rfl) (fun a h => Sh.laws_FnMsgs_ok (byt_of h.1) (byt_of h.2))
end Gp.YtmekmgblgohbdaaDoor
