import Derived.Test.YtddabbooahooeaaGreatDoorGpIns2
set_option linter.unusedVariables false
set_option linter.unusedSimpArgs false
namespace Gp
open Go
section
variable {tab : Tab} {w : World} {C : Ctx} {P : Program}
end
end Gp
