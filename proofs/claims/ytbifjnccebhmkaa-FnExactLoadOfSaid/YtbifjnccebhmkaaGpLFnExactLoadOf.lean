/- Gp: the laws' plain parts, out of their typed functions. -/
import Derived.Test.YtbifjnccebhmkaaGpAFnExactLoadOf
import Derived.Test.YtbifjnccebhmkaaGpSh5
import Derived.Test.YtbifjnccebhmkaaShP16
set_option maxRecDepth 100000
namespace Gp.Ytbifjnccebhmkaa
open Go Gp
def tisFnExactLoadOf : List TI := [(tab.get 41).getD default]
def zeroFnExactLoadOf : Array Value := #[(.agg #[(.int .i64 0), (.slice none 0 0), (.slice none 0 0)])]
theorem pureFnExactLoadOf : ∀ ds, WfDs tab (mkIns tisFnExactLoadOf 0 0).ks ds → CallI (sysOf ps) 36 ds [.bool true] :=
  pure_of (n := 8) (shs := [Sp.int (.i64), Sp.list (Sp.int (.i64)), Sp.list (Sp.pair (Sp.int (.i64)) (Sp.list (Sp.int (.i64))))]) (f := fun a => Sh.laws_FnExactLoadOf a.1 a.2.1 a.2.2) tf rfl (by kernel_rfl) (fun a h => Sh.laws_FnExactLoadOf_ok (num := a.1) h.2.1.1 h.2.2.1 (fun x hx => (h.2.2.2 x hx).2.1))
end Gp.Ytbifjnccebhmkaa
