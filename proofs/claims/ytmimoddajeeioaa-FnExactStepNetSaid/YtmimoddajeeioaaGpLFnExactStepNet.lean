/- Gp: the laws' plain parts, out of their typed functions. -/
import Derived.Test.YtmimoddajeeioaaGpAFnExactStepNet
import Derived.Test.YtmimoddajeeioaaGpSh5
import Derived.Test.YtmimoddajeeioaaShFnExactStepNet
set_option maxRecDepth 100000
namespace Gp.Ytmimoddajeeioaa
open Go Gp
def tisFnExactStepNet : List TI := [(tab.get 72).getD default, (tab.get 73).getD default]
def zeroFnExactStepNet : Array Value := #[(.agg #[(.slice none 0 0), (.slice none 0 0)]), (.agg #[(.int .i64 0), (.int .i64 0), (.int .i64 0), (.int .i64 0)])]
theorem pureFnExactStepNet : ∀ ds, WfDs tab (mkIns tisFnExactStepNet 0 0).ks ds → CallI (sysOf ps) 56 ds [.bool true] :=
  pure_of (n := 8) (shs := [Sp.list (Sp.pair (Sp.int (.i64)) (Sp.pair (Sp.bool) (Sp.int (.i64)))), Sp.list (Sp.pair (Sp.int (.i64)) (Sp.pair (Sp.int (.i64)) (Sp.pair (Sp.list (Sp.pair (Sp.bool) (Sp.int (.i64)))) (Sp.pair (Sp.bool) (Sp.list (Sp.int (.i64))))))), Sp.int (.i64), Sp.int (.i64), Sp.int (.i64), Sp.int (.i64)]) (f := fun a => Sh.laws_FnExactStepNet a.1 a.2.1 a.2.2.1 a.2.2.2.1 a.2.2.2.2.1 a.2.2.2.2.2) tf rfl (by kernel_rfl) (fun a h => Sh.laws_FnExactStepNet_ok (bs := a.1) (ws := a.2.1) ⟨h.1, h.2.1⟩)
end Gp.Ytmimoddajeeioaa
