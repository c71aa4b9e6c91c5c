/- Gp: the laws' plain parts, out of their typed functions. -/
import Derived.Test.YthhmbcblhgnelaaGreatDoorGpAFnOcc
import Derived.Test.YthhmbcblhgnelaaGreatDoorGpSh5
import Derived.Test.YthhmbcblhgnelaaGreatDoorShFnOcc
set_option linter.unusedVariables false
set_option linter.unusedSimpArgs false
set_option maxRecDepth 100000
namespace Gp.YthhmbcblhgnelaaGreatDoor
open Go Gp
def tisFnOcc:List TI:=[(tab.get 22).getD default]
def zeroFnOcc:Array Value:=#[(.slice none 0 0)]
theorem pureFnOcc:∀ds,WfDs tab (mkIns tisFnOcc 0 0).ks ds->CallI (sysOf ps) 83 ds [.bool true] :=
  zkS (n:=8) (shs:=[Sp.list (Sp.int (.u8))]) (f:=fun a=>Sh.laws_FnOcc a) tf rfl (by kernel_rfl) (fun a h=>Sh.zfO (zlv h))
end Gp.YthhmbcblhgnelaaGreatDoor
