/- Gp: the laws' plain parts, out of their typed functions. -/
import Derived.Test.YtilbjedfmbokcaaGpAFnExactPlayFence
import Derived.Test.YtilbjedfmbokcaaGpSh5
import Derived.Test.YtilbjedfmbokcaaShFnExactPlayFence
set_option maxRecDepth 100000
namespace Gp.Ytilbjedfmbokcaa
open Go Gp
def tisFnExactPlayFence : List TI := [(tab.get 3).getD default, (tab.get 39).getD default]
def zeroFnExactPlayFence : Array Value := #[(.int .i64 0), (.slice none 0 0)]
theorem pureFnExactPlayFence : ∀ ds, WfDs tab (mkIns tisFnExactPlayFence 0 0).ks ds → CallI (sysOf ps) 44 ds [.bool true] :=
  pure_of (n := 8) (shs := [Sp.int (.i64), Sp.list (Sp.pair (Sp.int (.i64)) (Sp.pair (Sp.int (.i64)) (Sp.int (.i64))))]) (f := fun a => Sh.laws_FnExactPlayFence a.1 a.2) tf rfl (by kernel_rfl) (fun a h => Sh.laws_FnExactPlayFence_ok (v := a.1) (l := a.2) h.2)
end Gp.Ytilbjedfmbokcaa
