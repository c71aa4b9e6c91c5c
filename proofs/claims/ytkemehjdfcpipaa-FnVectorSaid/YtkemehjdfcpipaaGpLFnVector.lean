/- Gp: the laws' plain parts, out of their typed functions. -/
import Derived.Test.YtkemehjdfcpipaaGpAFnVector
import Derived.Test.YtkemehjdfcpipaaGpSh5
import Derived.Test.YtkemehjdfcpipaaShFnVector
set_option maxRecDepth 100000
namespace Gp.Ytkemehjdfcpipaa
open Go Gp
def tisFnVector : List TI := [(tab.get 22).getD default, (tab.get 22).getD default]
def zeroFnVector : Array Value := #[(.slice none 0 0), (.slice none 0 0)]
theorem pureFnVector : ∀ ds, WfDs tab (mkIns tisFnVector 0 0).ks ds → CallI (sysOf ps) 32 ds [.bool true] :=
  pure_of (n := 8) (shs := [Sp.list (Sp.int (.u8)), Sp.list (Sp.int (.u8))]) (f := fun a => Sh.laws_FnVector a.1 a.2) tf rfl (by kernel_rfl) (fun a h => Sh.laws_FnVector_ok (byt_of h.1) (byt_of h.2))
end Gp.Ytkemehjdfcpipaa
