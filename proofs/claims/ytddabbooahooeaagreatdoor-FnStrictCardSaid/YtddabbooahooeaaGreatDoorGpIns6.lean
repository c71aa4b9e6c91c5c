import Derived.Test.YtddabbooahooeaaGreatDoorGpIns5
set_option linter.unusedVariables false
set_option linter.unusedSimpArgs false
namespace Gp
open Go Go.Shelf
section
variable {tab : Tab} {P : Program} {ρ : Ren}
theorem zjr (hT : TabOk P tab) {t : TypeId} {ti : TI} {k : IntKind} (h : tab.get t = some ti) (hd : ti.td = .int k) : P.underlying t = some (.int k) := by
 obtain ⟨d, h1, h2, _⟩ := zb1 hT h
 rw [hd] at h2
 cases d <;> simp [tdChk] at h2
 rw [h1, h2]
theorem ziK (hT : TabOk P tab) {t : TypeId} {ti : TI} (h : tab.get t = some ti) (hd : ti.td = .bool) : P.underlying t = some .bool := by
 obtain ⟨d, h1, h2, _⟩ := zb1 hT h
 rw [hd] at h2
 cases d <;> simp [tdChk] at h2
 rw [h1]
end
end Gp
