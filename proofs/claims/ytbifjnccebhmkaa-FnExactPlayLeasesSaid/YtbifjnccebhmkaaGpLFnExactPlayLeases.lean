/- Gp: the laws' plain parts, out of their typed functions. -/
import Derived.Test.YtbifjnccebhmkaaGpAFnExactPlayLeases
import Derived.Test.YtbifjnccebhmkaaGpSh5
import Derived.Test.YtbifjnccebhmkaaShP11
set_option maxRecDepth 100000
namespace Gp.Ytbifjnccebhmkaa
open Go Gp
def tisFnExactPlayLeases : List TI := [(tab.get 3).getD default, (tab.get 3).getD default, (tab.get 72).getD default]
def zeroFnExactPlayLeases : Array Value := #[(.int .i64 0), (.int .i64 0), (.slice none 0 0)]
theorem pureFnExactPlayLeases : ∀ ds, WfDs tab (mkIns tisFnExactPlayLeases 0 0).ks ds → CallI (sysOf ps) 26 ds [.bool true] :=
  pure_of (n := 8) (shs := [Sp.int (.i64), Sp.int (.i64), Sp.list (Sp.pair (Sp.int (.i64)) (Sp.pair (Sp.int (.i64)) (Sp.int (.i64))))]) (f := fun a => Sh.laws_FnExactPlayLeases a.1 a.2.1 a.2.2) tf rfl (by kernel_rfl) (fun a h => Sh.laws_FnExactPlayLeases_ok a.1 a.2.1 a.2.2 h.2.2.1)
end Gp.Ytbifjnccebhmkaa
