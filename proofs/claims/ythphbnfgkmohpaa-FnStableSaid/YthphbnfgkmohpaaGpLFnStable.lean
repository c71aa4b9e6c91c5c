/- Gp: the laws' plain parts, out of their typed functions. -/
import Derived.Test.YthphbnfgkmohpaaGpAFnStable
import Derived.Test.YthphbnfgkmohpaaGpSh5
import Derived.Test.YthphbnfgkmohpaaShFnStable
set_option maxRecDepth 100000
namespace Gp.Ythphbnfgkmohpaa
open Go Gp
def tisFnStable : List TI := [(tab.get 57).getD default, (tab.get 57).getD default]
def zeroFnStable : Array Value := #[(.slice none 0 0), (.slice none 0 0)]
theorem pureFnStable : ∀ ds, WfDs tab (mkIns tisFnStable 0 0).ks ds → CallI (sysOf ps) 54 ds [.bool true] :=
  pure_of (n := 8) (shs := [Sp.list (Sp.int (.u8)), Sp.list (Sp.int (.u8))]) (f := fun a => Sh.laws_FnStable a.1 a.2) tf rfl (by kernel_rfl) (fun a h => Sh.laws_FnStable_ok (byt_of h.1) (byt_of h.2) h.2.1)
end Gp.Ythphbnfgkmohpaa
