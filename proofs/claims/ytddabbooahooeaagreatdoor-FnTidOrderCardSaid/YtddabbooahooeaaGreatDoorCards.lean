/-
  DERIVED. GIVEN WITH THE SEED: THE CARDS: each row of YtddabbooahooeaaGreatDoorRows.lean that lists a variable, with what it lists TIED to the program's text (the seventh form; the later family's looks); each row that meets fmt, with fmt's text TOLD by the authors' own Lean function (tested against real Go, not proved from fmt's source: count such statements apart). THE CARD IS WHAT COUNTS. Prove the row's statement (the work); the ties are given (YtddabbooahooeaaGreatDoorTie.lean); close each card by the builder's one call (the guide's Derived/Test/ToyasCard.lean, 'card_holds'). Laid BY PROGRAM, IN A SANDBOX (cutbox-door.mjs). By AI agents, Wed Nov 11 2026. No macro, syntax, notation, axiom, sorry.
-/
import Derived.Test.YtddabbooahooeaaGreatDoorRows
import GoSem.ClaimSeven
namespace Go.Proofs.YtddabbooahooeaaGreatDoor
namespace Rows

/-- THE TIED CARD OF 'laws.FnStrict'. -/
def fnStrictCard : Claim7 := { stood := { row := fnStrictRow, standIns := [], harness := (true, "3de93a469ec3f65aa4d77056125a052425cc57846ed358f0c1d01aad8774411b"), looks := true }, kinds := [], alts := [], laidByText := true, laidKinds := [.data, .pinned], laidTests := true, laidLooks := .later }
def FnStrictCardSaid : Prop := Claim7.holds Tryz.pinned (.plain (OpenSpec.ofChange fnStrictSpec)) fnStrictCard

/-- THE TIED CARD OF 'laws.FnSerial'. -/
def fnSerialCard : Claim7 := { stood := { row := fnSerialRow, standIns := [], harness := (true, "3de93a469ec3f65aa4d77056125a052425cc57846ed358f0c1d01aad8774411b"), looks := true }, kinds := [], alts := [], laidByText := true, laidKinds := [.data, .data, .data, .data, .pinned], laidTests := true, laidLooks := .later }
def FnSerialCardSaid : Prop := Claim7.holds Tryz.pinned (.plain (OpenSpec.ofChange fnSerialSpec)) fnSerialCard

/-- THE TIED CARD OF 'laws.FnTidOrder'. -/
def fnTidOrderCard : Claim7 := { stood := { row := fnTidOrderRow, standIns := [], harness := (true, "3de93a469ec3f65aa4d77056125a052425cc57846ed358f0c1d01aad8774411b"), looks := true }, kinds := [], alts := [], laidByText := true, laidKinds := [.data, .data, .data, .data, .pinned], laidTests := true, laidLooks := .later }
def FnTidOrderCardSaid : Prop := Claim7.holds Tryz.pinned (.plain (OpenSpec.ofChange fnTidOrderSpec)) fnTidOrderCard

/-- THE TIED CARD OF 'laws.FnOcc'. -/
def fnOccCard : Claim7 := { stood := { row := fnOccRow, standIns := [], harness := (true, "3de93a469ec3f65aa4d77056125a052425cc57846ed358f0c1d01aad8774411b"), looks := true }, kinds := [], alts := [], laidByText := true, laidKinds := [.data, .data, .data, .data, .pinned], laidTests := true, laidLooks := .later }
def FnOccCardSaid : Prop := Claim7.holds Tryz.pinned (.plain (OpenSpec.ofChange fnOccSpec)) fnOccCard

/-- THE TIED CARD OF 'laws.FnLines'. -/
def fnLinesCard : Claim7 := { stood := { row := fnLinesRow, standIns := [], harness := (true, "3de93a469ec3f65aa4d77056125a052425cc57846ed358f0c1d01aad8774411b"), looks := true }, kinds := [], alts := [], laidByText := true, laidKinds := [.data, .data, .data, .data, .sentinel, .sentinel, .pinned], laidTests := true, laidLooks := .later }
def FnLinesCardSaid : Prop := Claim7.holds Tryz.pinned (.plain (OpenSpec.ofChange fnLinesSpec)) fnLinesCard

/-- THE SECOND FORM's CARD OF 'laws.FnStrict'. -/
def fnStrictUptoCard : Claim7 := { stood := { row := fnStrictUptoRow, standIns := [], harness := (true, "3de93a469ec3f65aa4d77056125a052425cc57846ed358f0c1d01aad8774411b"), looks := true }, kinds := [], alts := [], laidByText := true, laidKinds := [.data, .pinned], laidTests := true, laidLooks := .later }
def FnStrictUptoCardSaid : Prop := Claim7.holds Tryz.pinned (.plain (OpenSpec.upto fnStrictSpec)) fnStrictUptoCard

/-- THE SECOND FORM's CARD OF 'laws.FnSerial'. -/
def fnSerialUptoCard : Claim7 := { stood := { row := fnSerialUptoRow, standIns := [], harness := (true, "3de93a469ec3f65aa4d77056125a052425cc57846ed358f0c1d01aad8774411b"), looks := true }, kinds := [], alts := [], laidByText := true, laidKinds := [.data, .data, .data, .data, .pinned], laidTests := true, laidLooks := .later }
def FnSerialUptoCardSaid : Prop := Claim7.holds Tryz.pinned (.plain (OpenSpec.upto fnSerialSpec)) fnSerialUptoCard

/-- THE SECOND FORM's CARD OF 'laws.FnTidOrder'. -/
def fnTidOrderUptoCard : Claim7 := { stood := { row := fnTidOrderUptoRow, standIns := [], harness := (true, "3de93a469ec3f65aa4d77056125a052425cc57846ed358f0c1d01aad8774411b"), looks := true }, kinds := [], alts := [], laidByText := true, laidKinds := [.data, .data, .data, .data, .pinned], laidTests := true, laidLooks := .later }
def FnTidOrderUptoCardSaid : Prop := Claim7.holds Tryz.pinned (.plain (OpenSpec.upto fnTidOrderSpec)) fnTidOrderUptoCard

/-- THE SECOND FORM's CARD OF 'laws.FnOcc'. -/
def fnOccUptoCard : Claim7 := { stood := { row := fnOccUptoRow, standIns := [], harness := (true, "3de93a469ec3f65aa4d77056125a052425cc57846ed358f0c1d01aad8774411b"), looks := true }, kinds := [], alts := [], laidByText := true, laidKinds := [.data, .data, .data, .data, .pinned], laidTests := true, laidLooks := .later }
def FnOccUptoCardSaid : Prop := Claim7.holds Tryz.pinned (.plain (OpenSpec.upto fnOccSpec)) fnOccUptoCard

/-- THE SECOND FORM's CARD OF 'laws.FnLines'. -/
def fnLinesUptoCard : Claim7 := { stood := { row := fnLinesUptoRow, standIns := [], harness := (true, "3de93a469ec3f65aa4d77056125a052425cc57846ed358f0c1d01aad8774411b"), looks := true }, kinds := [], alts := [], laidByText := true, laidKinds := [.data, .data, .data, .data, .sentinel, .sentinel, .pinned], laidTests := true, laidLooks := .later }
def FnLinesUptoCardSaid : Prop := Claim7.holds Tryz.pinned (.plain (OpenSpec.upto fnLinesSpec)) fnLinesUptoCard
end Rows
end Go.Proofs.YtddabbooahooeaaGreatDoor
