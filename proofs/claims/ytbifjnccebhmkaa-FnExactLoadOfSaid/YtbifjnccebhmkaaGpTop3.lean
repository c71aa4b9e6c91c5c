/- Gp, part 34: an argument of a law's row, opened. -/
import Derived.Test.YtbifjnccebhmkaaGpTop2
import Derived.ChangeShapes
set_option linter.unusedVariables false
set_option linter.unusedSimpArgs false
namespace Gp
open Go
section
variable {H : Type} {enc : TypeId × Value → H} {P : Program} {tab : Tab} {w : World} {base b2 : Nat} {spare : Nat → Bool} {held : Bool}

theorem argIn_of (hT : TabOk P tab) (hsp : ∀ b, spare b = true) {m : Nat} {t : TypeId} {ti : TI} {v : Value} {d : DataW H} {p : List MemPlace} {r : Reach} (hg : goodT tab m t = true) (hti : tab.get t = some ti)
    (h : DataW.Trod enc P w base spare held t v d p) (hok : Value.okWide P w r b2 t v) : ArgIn tab w ti v := by
  obtain ⟨fuel, hf⟩ := h
  obtain ⟨h1, h2⟩ := trod_drel hT hsp fuel m hg hti hf
  obtain ⟨dd, hd1, hd2, hd3⟩ := (hT t ti hti).und
  have hck := (hT t ti hti).cks
  have hlen := (hT t ti hti).len
  refine ⟨h1, h2, fun ha => ?_, fun ha => ?_⟩
  · rw [ha] at hd3
    simp only [Value.okWide, hd1] at hok
    cases dd <;> simp [isAggD] at hd3
    · obtain ⟨cs, rfl, _⟩ := hok; exact ⟨cs, rfl⟩
    · obtain ⟨cs, rfl, _⟩ := hok; exact ⟨cs, rfl⟩
  · rw [ha] at hd3
    have hs : ti.size = 1 := by
      cases m with
      | zero => cases hg
      | succ m =>
        simp only [goodT, hti] at hg
        cases htd : ti.td <;> rw [htd] at hg hd2 <;> first
          | (cases hg; done)
          | (simp only [cksOf, htd, beq_iff_eq] at hck; rw [hlen, hck]; rfl)
          | (cases dd <;> simp [tdChk, isAggD] at hd2 hd3)
    refine ⟨hs, fun cs e => ?_⟩
    subst e
    simp only [Value.okWide, hd1] at hok
    cases dd <;> simp [isAggD] at hd3 <;> simp_all [Cell.okWide, Cell.ok]
end
end Gp
