/- Gp: the laws' plain parts, out of their typed functions. -/
import Derived.Test.YtmhcefpknmhbgaaGpAFnExactPlayCommit
import Derived.Test.YtmhcefpknmhbgaaGpSh5
import Derived.Test.YtmhcefpknmhbgaaShFnExactPlayCommit
set_option maxRecDepth 100000
namespace Gp.Ytmhcefpknmhbgaa
open Go Gp
def tisFnExactPlayCommit : List TI := [(tab.get 27).getD default, (tab.get 87).getD default]
def zeroFnExactPlayCommit : Array Value := #[(.slice none 0 0), (.slice none 0 0)]
theorem pureFnExactPlayCommit : ∀ ds, WfDs tab (mkIns tisFnExactPlayCommit 0 0).ks ds → CallI (sysOf ps) 54 ds [.bool true] :=
  pure_of (n := 8) (shs := [Sp.list (Sp.int (.i64)), Sp.list (Sp.pair (Sp.int (.i64)) (Sp.pair (Sp.int (.i64)) (Sp.int (.i64))))]) (f := fun a => Sh.laws_FnExactPlayCommit a.1 a.2) tf rfl (by kernel_rfl) (fun a h => Sh.laws_FnExactPlayCommit_ok (v := a.1) (l := a.2) h.1 h.2)
end Gp.Ytmhcefpknmhbgaa
