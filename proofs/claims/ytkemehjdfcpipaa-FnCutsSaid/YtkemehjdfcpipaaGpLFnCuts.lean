/- Gp: the laws' plain parts, out of their typed functions. -/
import Derived.Test.YtkemehjdfcpipaaGpAFnCuts
import Derived.Test.YtkemehjdfcpipaaGpSh5
import Derived.Test.YtkemehjdfcpipaaShFnCuts
set_option maxRecDepth 100000
namespace Gp.Ytkemehjdfcpipaa
open Go Gp
def tisFnCuts : List TI := [(tab.get 22).getD default, (tab.get 22).getD default]
def zeroFnCuts : Array Value := #[(.slice none 0 0), (.slice none 0 0)]
theorem pureFnCuts : ∀ ds, WfDs tab (mkIns tisFnCuts 0 0).ks ds → CallI (sysOf ps) 27 ds [.bool true] :=
  pure_of (n := 8) (shs := [Sp.list (Sp.int (.u8)), Sp.list (Sp.int (.u8))]) (f := fun a => Sh.laws_FnCuts a.1 a.2) tf rfl (by kernel_rfl) (fun a h => Sh.laws_FnCuts_ok (byt_of h.1) (byt_of h.2) h.2.1)
end Gp.Ytkemehjdfcpipaa
