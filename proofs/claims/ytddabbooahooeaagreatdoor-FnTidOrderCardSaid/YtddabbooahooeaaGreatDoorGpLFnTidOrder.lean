/- Gp: the laws' plain parts, out of their typed functions. -/
import Derived.Test.YtddabbooahooeaaGreatDoorGpAFnTidOrder
import Derived.Test.YtddabbooahooeaaGreatDoorGpSh5
import Derived.Test.YtddabbooahooeaaGreatDoorShFnTidOrder
set_option linter.unusedVariables false
set_option linter.unusedSimpArgs false
set_option maxRecDepth 100000
namespace Gp.YtddabbooahooeaaGreatDoor
open Go Gp
def tisFnTidOrder:List TI:=[(tab.get 22).getD default,(tab.get 22).getD default]
def zeroFnTidOrder:Array Value:=#[(.slice none 0 0),(.slice none 0 0)]
theorem pureFnTidOrder:∀ ds,WfDs tab (mkIns tisFnTidOrder 0 0).ks ds->CallI (sysOf ps) 83 ds [.bool true] :=
  zkv (n:=8) (shs:=[Sp.list (Sp.int (.u8)),Sp.list (Sp.int (.u8))]) (f:=fun a=>Sh.laws_FnTidOrder a.1 a.2) tf rfl (by kernel_rfl) (fun a h=>Sh.zcR (zjU h.1) (zjU h.2))
end Gp.YtddabbooahooeaaGreatDoor
