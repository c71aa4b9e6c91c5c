/- Gp: the laws' plain parts, out of their typed functions. -/
import Derived.Test.YtddabbooahooeaaDoorGpAFnTwoPhase
import Derived.Test.YtddabbooahooeaaDoorGpSh5
import Derived.Test.YtddabbooahooeaaDoorShFnTwoPhase
set_option linter.unusedVariables false
set_option linter.unusedSimpArgs false
set_option maxRecDepth 100000
namespace Gp.YtddabbooahooeaaDoor
open Go Gp
def tisFnTwoPhase : List TI := [(tab.get 22).getD default]
def zeroFnTwoPhase : Array Value := #[(.slice none 0 0)]
theorem pureFnTwoPhase : ∀ ds, WfDs tab (mkIns tisFnTwoPhase 0 0).ks ds -> CallI (sysOf ps) 71 ds [.bool true] :=
  zjd (n := 8) (shs := [Sp.list (Sp.int (.u8))]) (f := fun a => Sh.laws_FnTwoPhase a) tf rfl (by kernel_rfl) (fun a h => Sh.zcL (zj0 h))
end Gp.YtddabbooahooeaaDoor
