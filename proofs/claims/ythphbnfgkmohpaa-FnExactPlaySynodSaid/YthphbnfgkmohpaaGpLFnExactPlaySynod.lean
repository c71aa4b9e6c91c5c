/- Gp: the laws' plain parts, out of their typed functions. -/
import Derived.Test.YthphbnfgkmohpaaGpAFnExactPlaySynod
import Derived.Test.YthphbnfgkmohpaaGpSh5
import Derived.Test.YthphbnfgkmohpaaShFnExactPlaySynod
set_option maxRecDepth 100000
namespace Gp.Ythphbnfgkmohpaa
open Go Gp
def tisFnExactPlaySynod : List TI := [(tab.get 3).getD default, (tab.get 22).getD default, (tab.get 23).getD default]
def zeroFnExactPlaySynod : Array Value := #[(.int .i64 0), (.slice none 0 0), (.slice none 0 0)]
theorem pureFnExactPlaySynod : ∀ ds, WfDs tab (mkIns tisFnExactPlaySynod 0 0).ks ds → CallI (sysOf ps) 58 ds [.bool true] :=
  pure_of (n := 8) (shs := [Sp.int (.i64), Sp.list (Sp.str), Sp.list (Sp.pair (Sp.bool) (Sp.pair (Sp.int (.i64)) (Sp.int (.i64))))]) (f := fun a => Sh.laws_FnExactPlaySynod a.1 a.2.1 a.2.2) tf rfl (by kernel_rfl) (fun a h => Sh.laws_FnExactPlaySynod_ok h.2.1 h.2.2)
end Gp.Ythphbnfgkmohpaa
