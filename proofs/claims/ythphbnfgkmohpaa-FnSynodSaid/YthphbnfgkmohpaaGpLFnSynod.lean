/- Gp: the laws' plain parts, out of their typed functions. -/
import Derived.Test.YthphbnfgkmohpaaGpAFnSynod
import Derived.Test.YthphbnfgkmohpaaGpSh5
import Derived.Test.YthphbnfgkmohpaaShFnSynod
set_option maxRecDepth 100000
namespace Gp.Ythphbnfgkmohpaa
open Go Gp
def tisFnSynod : List TI := [(tab.get 57).getD default]
def zeroFnSynod : Array Value := #[(.slice none 0 0)]
theorem pureFnSynod : ∀ ds, WfDs tab (mkIns tisFnSynod 0 0).ks ds → CallI (sysOf ps) 52 ds [.bool true] :=
  pure_of (n := 8) (shs := [Sp.list (Sp.int (.u8))]) (f := fun a => Sh.laws_FnSynod a) tf rfl (by kernel_rfl) (fun a h => Sh.laws_FnSynod_ok (byt_of h))
end Gp.Ythphbnfgkmohpaa
