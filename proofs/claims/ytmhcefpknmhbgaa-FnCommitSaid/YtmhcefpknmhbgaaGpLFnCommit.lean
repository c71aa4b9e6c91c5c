/- Gp: the laws' plain parts, out of their typed functions. -/
import Derived.Test.YtmhcefpknmhbgaaGpAFnCommit
import Derived.Test.YtmhcefpknmhbgaaGpSh5
import Derived.Test.YtmhcefpknmhbgaaShP15c
set_option maxRecDepth 100000
namespace Gp.Ytmhcefpknmhbgaa
open Go Gp
def tisFnCommit : List TI := [(tab.get 22).getD default]
def zeroFnCommit : Array Value := #[(.slice none 0 0)]
theorem pureFnCommit : ∀ ds, WfDs tab (mkIns tisFnCommit 0 0).ks ds → CallI (sysOf ps) 52 ds [.bool true] :=
  pure_of (n := 8) (shs := [Sp.list (Sp.int (.u8))]) (f := fun a => Sh.laws_FnCommit a) tf rfl (by kernel_rfl) (fun a h => Sh.laws_FnCommit_ok (byt_of h))
end Gp.Ytmhcefpknmhbgaa
