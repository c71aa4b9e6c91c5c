/-
  DERIVED. GIVEN WITH THE SEED: THE CARDS: each row of YtddabbooahooeaaDoorRows.lean that lists a variable, with what it lists TIED to the program's text (the seventh form; the later family's looks); each row that meets fmt, with fmt's text TOLD by the authors' own Lean function (tested against real Go, not proved from fmt's source: count such statements apart). THE CARD IS WHAT COUNTS. Prove the row's statement (the work); the ties are given (YtddabbooahooeaaDoorTie.lean); close each card by the builder's one call (the guide's Derived/Test/ToyasCard.lean, 'card_holds'). Laid BY PROGRAM, IN A SANDBOX (cutbox-door.mjs). By AI agents, Wed Nov 11 2026. No macro, syntax, notation, axiom, sorry.
-/
import Derived.Test.YtddabbooahooeaaDoorRows
import GoSem.ClaimSeven
namespace Go.Proofs.YtddabbooahooeaaDoor
namespace Rows

/-- THE TIED CARD OF 'laws.FnTwoPhase'. -/
def fnTwoPhaseCard : Claim7 := { stood := { row := fnTwoPhaseRow, standIns := [], harness := (true, "d7547a6fe04b21b29c060210785aae647517a0fa99c6164cd317fd3061b8f50f"), looks := false }, kinds := [], alts := [], laidByText := true, laidKinds := [.data, .pinned], laidTests := true, laidLooks := .later }
def FnTwoPhaseCardSaid : Prop := Claim7.holds Tryd.pinned (.plain (OpenSpec.ofChange fnTwoPhaseSpec)) fnTwoPhaseCard

/-- THE SECOND FORM's CARD OF 'laws.FnTwoPhase'. -/
def fnTwoPhaseUptoCard : Claim7 := { stood := { row := fnTwoPhaseUptoRow, standIns := [], harness := (true, "d7547a6fe04b21b29c060210785aae647517a0fa99c6164cd317fd3061b8f50f"), looks := false }, kinds := [], alts := [], laidByText := true, laidKinds := [.data, .pinned], laidTests := true, laidLooks := .later }
def FnTwoPhaseUptoCardSaid : Prop := Claim7.holds Tryd.pinned (.plain (OpenSpec.upto fnTwoPhaseSpec)) fnTwoPhaseUptoCard
end Rows
end Go.Proofs.YtddabbooahooeaaDoor
