/-
  DERIVED. GIVEN WITH THE SEED: THE CARDS: each row of YthhmbcblhgnelaaGreatDoorRows.lean that lists a variable, with what it lists TIED to the program's text (the seventh form; the later family's looks); each row that meets fmt, with fmt's text TOLD by the authors' own Lean function (tested against real Go, not proved from fmt's source: count such statements apart). THE CARD IS WHAT COUNTS. Prove the row's statement (the work); the ties are given (YthhmbcblhgnelaaGreatDoorTie.lean); close each card by the builder's one call (the guide's Derived/Test/ToyasCard.lean, 'card_holds'). Laid BY PROGRAM, IN A SANDBOX (cutbox-door.mjs). By AI agents, Wed Nov 11 2026. No macro, syntax, notation, axiom, sorry.
-/
import Derived.Test.YthhmbcblhgnelaaGreatDoorRows
import GoSem.ClaimSeven
namespace Go.Proofs.YthhmbcblhgnelaaGreatDoor
namespace Rows

/-- THE TIED CARD OF 'laws.FnOcc'. -/
def fnOccCard : Claim7 := { stood := { row := fnOccRow, standIns := [], harness := (true, "c8bb6fe61aa918703ee2bd2e2c63cbbf463288c6fa4a7d211864e832d27cfd4c"), looks := false }, kinds := [], alts := [], laidByText := true, laidKinds := [.data, .data, .data, .data, .pinned], laidTests := true, laidLooks := .later }
def FnOccCardSaid : Prop := Claim7.holds Tryz.pinned (.plain (OpenSpec.ofChange fnOccSpec)) fnOccCard

/-- THE TIED CARD OF 'laws.FnSerial'. -/
def fnSerialCard : Claim7 := { stood := { row := fnSerialRow, standIns := [], harness := (true, "c8bb6fe61aa918703ee2bd2e2c63cbbf463288c6fa4a7d211864e832d27cfd4c"), looks := false }, kinds := [], alts := [], laidByText := true, laidKinds := [.data, .data, .data, .data, .pinned], laidTests := true, laidLooks := .later }
def FnSerialCardSaid : Prop := Claim7.holds Tryz.pinned (.plain (OpenSpec.ofChange fnSerialSpec)) fnSerialCard

/-- THE SECOND FORM's CARD OF 'laws.FnOcc'. -/
def fnOccUptoCard : Claim7 := { stood := { row := fnOccUptoRow, standIns := [], harness := (true, "c8bb6fe61aa918703ee2bd2e2c63cbbf463288c6fa4a7d211864e832d27cfd4c"), looks := false }, kinds := [], alts := [], laidByText := true, laidKinds := [.data, .data, .data, .data, .pinned], laidTests := true, laidLooks := .later }
def FnOccUptoCardSaid : Prop := Claim7.holds Tryz.pinned (.plain (OpenSpec.upto fnOccSpec)) fnOccUptoCard

/-- THE SECOND FORM's CARD OF 'laws.FnSerial'. -/
def fnSerialUptoCard : Claim7 := { stood := { row := fnSerialUptoRow, standIns := [], harness := (true, "c8bb6fe61aa918703ee2bd2e2c63cbbf463288c6fa4a7d211864e832d27cfd4c"), looks := false }, kinds := [], alts := [], laidByText := true, laidKinds := [.data, .data, .data, .data, .pinned], laidTests := true, laidLooks := .later }
def FnSerialUptoCardSaid : Prop := Claim7.holds Tryz.pinned (.plain (OpenSpec.upto fnSerialSpec)) fnSerialUptoCard
end Rows
end Go.Proofs.YthhmbcblhgnelaaGreatDoor
