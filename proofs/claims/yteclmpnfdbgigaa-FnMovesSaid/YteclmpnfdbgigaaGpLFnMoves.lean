/- Gp: the laws' plain parts, out of their typed functions. -/
import Derived.Test.YteclmpnfdbgigaaGpAFnMoves
import Derived.Test.YteclmpnfdbgigaaGpSh5
import Derived.Test.YteclmpnfdbgigaaShFnMoves
set_option maxRecDepth 100000
namespace Gp.Yteclmpnfdbgigaa
open Go Gp
def tisFnMoves : List TI := [(tab.get 22).getD default, (tab.get 22).getD default]
def zeroFnMoves : Array Value := #[(.slice none 0 0), (.slice none 0 0)]
theorem pureFnMoves : ∀ ds, WfDs tab (mkIns tisFnMoves 0 0).ks ds → CallI (sysOf ps) 62 ds [.bool true] :=
  pure_of (n := 8) (shs := [Sp.list (Sp.int (.u8)), Sp.list (Sp.int (.u8))]) (f := fun a => Sh.laws_FnMoves a.1 a.2) tf rfl (by kernel_rfl) (fun a h => Sh.laws_FnMoves_ok (byt_of h.1) (byt_of h.2))
end Gp.Yteclmpnfdbgigaa
