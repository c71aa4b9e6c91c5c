/- Gp: the laws' plain parts, out of their typed functions. -/
import Derived.Test.YtmekmgblgohbdaaDoorGpAFnExactPartOf
import Derived.Test.YtmekmgblgohbdaaDoorGpSh5
import Derived.Test.YtmekmgblgohbdaaDoorShFnExactPartOf
set_option maxRecDepth 100000
namespace Gp.YtmekmgblgohbdaaDoor
open Go Gp
def tisFnExactPartOf : List TI := [(tab.get 9).getD default, (tab.get 3).getD default]
def zeroFnExactPartOf : Array Value := #[(.string ⟨#[]⟩), (.int .i64 0)]
theorem pureFnExactPartOf : ∀ ds, WfDs tab (mkIns tisFnExactPartOf 0 0).ks ds → CallI (sysOf ps) 7 ds [.bool true] :=
  pure_of (n := 8) (shs := [Sp.str, Sp.int (.i64)]) (f := fun a => Sh.laws_FnExactPartOf a.1 a.2) tf rfl (by kernel_rfl) (fun a h => Sh.laws_FnExactPartOf_ok a.1 a.2)
end Gp.YtmekmgblgohbdaaDoor
