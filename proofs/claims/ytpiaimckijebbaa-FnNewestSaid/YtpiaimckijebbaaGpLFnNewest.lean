/- Gp: the laws' plain parts, out of their typed functions. -/
import Derived.Test.YtpiaimckijebbaaGpAFnNewest
import Derived.Test.YtpiaimckijebbaaGpSh5
import Derived.Test.YtpiaimckijebbaaShFnNewest
set_option maxRecDepth 100000
namespace Gp.Ytpiaimckijebbaa
open Go Gp
def tisFnNewest : List TI := [(tab.get 22).getD default, (tab.get 22).getD default]
def zeroFnNewest : Array Value := #[(.slice none 0 0), (.slice none 0 0)]
theorem pureFnNewest : ∀ ds, WfDs tab (mkIns tisFnNewest 0 0).ks ds → CallI (sysOf ps) 51 ds [.bool true] :=
  pure_of (n := 8) (shs := [Sp.list (Sp.int (.u8)), Sp.list (Sp.int (.u8))]) (f := fun a => Sh.laws_FnNewest a.1 a.2) tf rfl (by kernel_rfl) (fun a h => Sh.laws_FnNewest_ok (byt_of h.1) (byt_of h.2))
end Gp.Ytpiaimckijebbaa
