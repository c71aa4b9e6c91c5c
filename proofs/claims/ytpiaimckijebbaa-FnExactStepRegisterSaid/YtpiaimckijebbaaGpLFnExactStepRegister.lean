/- Gp: the laws' plain parts, out of their typed functions. -/
import Derived.Test.YtpiaimckijebbaaGpAFnExactStepRegister
import Derived.Test.YtpiaimckijebbaaGpSh5
import Derived.Test.YtpiaimckijebbaaShFnExactStepRegister
set_option maxRecDepth 100000
namespace Gp.Ytpiaimckijebbaa
open Go Gp
def tisFnExactStepRegister : List TI := [(tab.get 60).getD default, (tab.get 61).getD default]
def zeroFnExactStepRegister : Array Value := #[(.agg #[(.int .i64 0), (.slice none 0 0), (.slice none 0 0)]), (.agg #[(.bool false), (.int .i64 0), (.bool false), (.string ⟨#[]⟩), (.int .i64 0), (.int .i64 0)])]
theorem pureFnExactStepRegister : ∀ ds, WfDs tab (mkIns tisFnExactStepRegister 0 0).ks ds → CallI (sysOf ps) 61 ds [.bool true] :=
  pure_of (n := 8) (shs := [Sp.int (.i64), Sp.list (Sp.pair (Sp.int (.i64)) (Sp.pair (Sp.int (.i64)) (Sp.str))), Sp.list (Sp.pair (Sp.int (.i64)) (Sp.pair (Sp.bool) (Sp.pair (Sp.str) (Sp.pair (Sp.int (.i64)) (Sp.pair (Sp.list (Sp.int (.i64))) (Sp.pair (Sp.int (.i64)) (Sp.pair (Sp.int (.i64)) (Sp.pair (Sp.str) (Sp.pair (Sp.int (.i64)) (Sp.int (.i64))))))))))), Sp.bool, Sp.int (.i64), Sp.bool, Sp.str, Sp.int (.i64), Sp.int (.i64)]) (f := fun a => Sh.laws_FnExactStepRegister a.1 a.2.1 a.2.2.1 a.2.2.2.1 a.2.2.2.2.1 a.2.2.2.2.2.1 a.2.2.2.2.2.2.1 a.2.2.2.2.2.2.2.1 a.2.2.2.2.2.2.2.2) tf rfl (by kernel_rfl) (fun a h => Sh.laws_FnExactStepRegister_ok (s := (a.1, a.2.1, a.2.2.1)) (x := a.2.2.2) ⟨h.1, h.2.1, h.2.2.1⟩ h.2.2.2)
end Gp.Ytpiaimckijebbaa
