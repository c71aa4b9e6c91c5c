/- Gp: the laws' plain parts, out of their typed functions. -/
import Derived.Test.YtmimoddajeeioaaGpAFnExactFinishNet
import Derived.Test.YtmimoddajeeioaaGpSh5
import Derived.Test.YtmimoddajeeioaaShFnExactFinishNet
set_option maxRecDepth 100000
namespace Gp.Ytmimoddajeeioaa
open Go Gp
def tisFnExactFinishNet : List TI := [(tab.get 72).getD default]
def zeroFnExactFinishNet : Array Value := #[(.agg #[(.slice none 0 0), (.slice none 0 0)])]
theorem pureFnExactFinishNet : ∀ ds, WfDs tab (mkIns tisFnExactFinishNet 0 0).ks ds → CallI (sysOf ps) 64 ds [.bool true] :=
  pure_of (n := 8) (shs := [Sp.list (Sp.pair (Sp.int (.i64)) (Sp.pair (Sp.bool) (Sp.int (.i64)))), Sp.list (Sp.pair (Sp.int (.i64)) (Sp.pair (Sp.int (.i64)) (Sp.pair (Sp.list (Sp.pair (Sp.bool) (Sp.int (.i64)))) (Sp.pair (Sp.bool) (Sp.list (Sp.int (.i64)))))))]) (f := fun a => Sh.laws_FnExactFinishNet a.1 a.2) tf rfl (by kernel_rfl) (fun a h => Sh.laws_FnExactFinishNet_ok (bs := a.1) (ws := a.2) ⟨h.1, h.2⟩)
end Gp.Ytmimoddajeeioaa
