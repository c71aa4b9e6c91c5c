/- Gp: the laws' plain parts, out of their typed functions. -/
import Derived.Test.YtbifjnccebhmkaaGpAFnMajority
import Derived.Test.YtbifjnccebhmkaaGpSh5
import Derived.Test.YtbifjnccebhmkaaShP8
set_option maxRecDepth 100000
namespace Gp.Ytbifjnccebhmkaa
open Go Gp
def tisFnMajority : List TI := [(tab.get 22).getD default, (tab.get 22).getD default]
def zeroFnMajority : Array Value := #[(.slice none 0 0), (.slice none 0 0)]
theorem pureFnMajority : ∀ ds, WfDs tab (mkIns tisFnMajority 0 0).ks ds → CallI (sysOf ps) 42 ds [.bool true] :=
  pure_of (n := 8) (shs := [Sp.list (Sp.int (.u8)), Sp.list (Sp.int (.u8))]) (f := fun a => Sh.laws_FnMajority a.1 a.2) tf rfl (by kernel_rfl) (fun a h => Sh.laws_FnMajority_ok (byt_of h.1) (byt_of h.2))
end Gp.Ytbifjnccebhmkaa
