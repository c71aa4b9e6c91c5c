/- Gp: the laws' plain parts, out of their typed functions. -/
import Derived.Test.YtddabbooahooeaaGreatDoorGpAFnStrict
import Derived.Test.YtddabbooahooeaaGreatDoorGpSh5
import Derived.Test.YtddabbooahooeaaGreatDoorShFnStrict
set_option linter.unusedVariables false
set_option linter.unusedSimpArgs false
set_option maxRecDepth 100000
namespace Gp.YtddabbooahooeaaGreatDoor
open Go Gp
def tisFnStrict : List TI := [(tab.get 22).getD default, (tab.get 22).getD default]
def zeroFnStrict : Array Value := #[(.slice none 0 0), (.slice none 0 0)]
theorem pureFnStrict : ∀ ds, WfDs tab (mkIns tisFnStrict 0 0).ks ds -> CallI (sysOf ps) 78 ds [.bool true] :=
  zjl (n := 8) (shs := [Sp.list (Sp.int (.u8)), Sp.list (Sp.int (.u8))]) (f := fun a => Sh.laws_FnStrict a.1 a.2) tf rfl (by kernel_rfl) (fun a h => Sh.zd6 (ziN h.1) (ziN h.2))
end Gp.YtddabbooahooeaaGreatDoor
