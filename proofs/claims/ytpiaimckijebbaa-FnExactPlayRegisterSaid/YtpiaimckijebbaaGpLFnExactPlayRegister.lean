/- Gp: the laws' plain parts, out of their typed functions. -/
import Derived.Test.YtpiaimckijebbaaGpAFnExactPlayRegister
import Derived.Test.YtpiaimckijebbaaGpSh5
import Derived.Test.YtpiaimckijebbaaShFnExactPlayRegister
set_option maxRecDepth 100000
namespace Gp.Ytpiaimckijebbaa
open Go Gp
def tisFnExactPlayRegister : List TI := [(tab.get 3).getD default, (tab.get 47).getD default]
def zeroFnExactPlayRegister : Array Value := #[(.int .i64 0), (.slice none 0 0)]
theorem pureFnExactPlayRegister : ∀ ds, WfDs tab (mkIns tisFnExactPlayRegister 0 0).ks ds → CallI (sysOf ps) 56 ds [.bool true] :=
  pure_of (n := 8) (shs := [Sp.int (.i64), Sp.list (Sp.pair (Sp.bool) (Sp.pair (Sp.int (.i64)) (Sp.pair (Sp.bool) (Sp.pair (Sp.str) (Sp.pair (Sp.int (.i64)) (Sp.int (.i64)))))))]) (f := fun a => Sh.laws_FnExactPlayRegister a.1 a.2) tf rfl (by kernel_rfl) (fun a h => Sh.laws_FnExactPlayRegister_ok h.2)
end Gp.Ytpiaimckijebbaa
