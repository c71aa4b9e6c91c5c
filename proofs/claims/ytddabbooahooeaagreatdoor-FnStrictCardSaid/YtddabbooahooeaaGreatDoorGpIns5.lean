import Derived.Test.YtddabbooahooeaaGreatDoorGpIns4
set_option linter.unusedVariables false
set_option linter.unusedSimpArgs false
namespace Gp
open Go Go.Shelf
section
variable {tab : Tab} {w : World} {C : Ctx} {P : Program} {ρ : Ren}
end
end Gp
