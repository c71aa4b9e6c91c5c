/- Gp: the laws' plain parts, out of their typed functions. -/
import Derived.Test.YtilbjedfmbokcaaGpAFnFence
import Derived.Test.YtilbjedfmbokcaaGpSh5
import Derived.Test.YtilbjedfmbokcaaShFnFence
set_option maxRecDepth 100000
namespace Gp.Ytilbjedfmbokcaa
open Go Gp
def tisFnFence : List TI := [(tab.get 22).getD default]
def zeroFnFence : Array Value := #[(.slice none 0 0)]
theorem pureFnFence : ∀ ds, WfDs tab (mkIns tisFnFence 0 0).ks ds → CallI (sysOf ps) 38 ds [.bool true] :=
  pure_of (n := 8) (shs := [Sp.list (Sp.int (.u8))]) (f := fun a => Sh.laws_FnFence a) tf rfl (by kernel_rfl) (fun a h => Sh.laws_FnFence_ok (byt_of h))
end Gp.Ytilbjedfmbokcaa
