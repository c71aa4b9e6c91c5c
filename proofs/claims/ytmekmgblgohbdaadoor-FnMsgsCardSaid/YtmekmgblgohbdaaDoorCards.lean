/-
  DERIVED. GIVEN WITH THE SEED: THE CARDS: each row of YtmekmgblgohbdaaDoorRows.lean that lists a variable, with what it lists TIED to the program's text (the seventh form; the later family's looks); each row that meets fmt, with fmt's text TOLD by the authors' own Lean function (tested against real Go, not proved from fmt's source: count such statements apart). THE CARD IS WHAT COUNTS. Prove the row's statement (the work); the ties are given (YtmekmgblgohbdaaDoorTie.lean); close each card by the builder's one call (the guide's Derived/Test/ToyasCard.lean, 'card_holds'). Laid BY PROGRAM, IN A SANDBOX (cutbox-door.mjs). By AI agents, Wed Nov 11 2026. No macro, syntax, notation, axiom, sorry.
-/
import Derived.Test.YtmekmgblgohbdaaDoorRows
import GoSem.ClaimSeven
namespace Go.Proofs.YtmekmgblgohbdaaDoor
namespace Rows

/-- THE TIED CARD OF 'laws.FnExactPartOf'. -/
def fnExactPartOfCard : Claim7 := { stood := { row := fnExactPartOfRow, standIns := [], harness := (true, "e624e1ec0ac9e185dbf860bd53a149dedc16b2c07749414d4884608a876bb838"), looks := false }, kinds := [], alts := [], laidByText := true, laidKinds := [.data, .pinned], laidTests := true, laidLooks := .later }
def FnExactPartOfCardSaid : Prop := Claim7.holds Tryd.pinned (.plain (OpenSpec.ofChange fnExactPartOfSpec)) fnExactPartOfCard

/-- THE TIED CARD OF 'laws.FnMsgs'. -/
def fnMsgsCard : Claim7 := { stood := { row := fnMsgsRow, standIns := [], harness := (true, "e624e1ec0ac9e185dbf860bd53a149dedc16b2c07749414d4884608a876bb838"), looks := false }, kinds := [], alts := [], laidByText := true, laidKinds := [.data, .pinned], laidTests := true, laidLooks := .later }
def FnMsgsCardSaid : Prop := Claim7.holds Tryd.pinned (.plain (OpenSpec.ofChange fnMsgsSpec)) fnMsgsCard

/-- THE TIED CARD OF 'laws.FnConfig'. -/
def fnConfigCard : Claim7 := { stood := { row := fnConfigRow, standIns := [], harness := (true, "e624e1ec0ac9e185dbf860bd53a149dedc16b2c07749414d4884608a876bb838"), looks := false }, kinds := [], alts := [], laidByText := true, laidKinds := [.data, .pinned], laidTests := true, laidLooks := .later }
def FnConfigCardSaid : Prop := Claim7.holds Tryd.pinned (.plain (OpenSpec.ofChange fnConfigSpec)) fnConfigCard

/-- THE TIED CARD OF 'laws.FnAbd'. -/
def fnAbdCard : Claim7 := { stood := { row := fnAbdRow, standIns := [], harness := (true, "e624e1ec0ac9e185dbf860bd53a149dedc16b2c07749414d4884608a876bb838"), looks := false }, kinds := [], alts := [], laidByText := true, laidKinds := [.data, .pinned], laidTests := true, laidLooks := .later }
def FnAbdCardSaid : Prop := Claim7.holds Tryd.pinned (.plain (OpenSpec.ofChange fnAbdSpec)) fnAbdCard

/-- THE TIED CARD OF 'laws.FnLocal'. -/
def fnLocalCard : Claim7 := { stood := { row := fnLocalRow, standIns := [], harness := (true, "e624e1ec0ac9e185dbf860bd53a149dedc16b2c07749414d4884608a876bb838"), looks := false }, kinds := [], alts := [], laidByText := true, laidKinds := [.data, .pinned], laidTests := true, laidLooks := .later }
def FnLocalCardSaid : Prop := Claim7.holds Tryd.pinned (.plain (OpenSpec.ofChange fnLocalSpec)) fnLocalCard

/-- THE SECOND FORM's CARD OF 'laws.FnExactPartOf'. -/
def fnExactPartOfUptoCard : Claim7 := { stood := { row := fnExactPartOfUptoRow, standIns := [], harness := (true, "e624e1ec0ac9e185dbf860bd53a149dedc16b2c07749414d4884608a876bb838"), looks := false }, kinds := [], alts := [], laidByText := true, laidKinds := [.data, .pinned], laidTests := true, laidLooks := .later }
def FnExactPartOfUptoCardSaid : Prop := Claim7.holds Tryd.pinned (.plain (OpenSpec.upto fnExactPartOfSpec)) fnExactPartOfUptoCard

/-- THE SECOND FORM's CARD OF 'laws.FnMsgs'. -/
def fnMsgsUptoCard : Claim7 := { stood := { row := fnMsgsUptoRow, standIns := [], harness := (true, "e624e1ec0ac9e185dbf860bd53a149dedc16b2c07749414d4884608a876bb838"), looks := false }, kinds := [], alts := [], laidByText := true, laidKinds := [.data, .pinned], laidTests := true, laidLooks := .later }
def FnMsgsUptoCardSaid : Prop := Claim7.holds Tryd.pinned (.plain (OpenSpec.upto fnMsgsSpec)) fnMsgsUptoCard

/-- THE SECOND FORM's CARD OF 'laws.FnConfig'. -/
def fnConfigUptoCard : Claim7 := { stood := { row := fnConfigUptoRow, standIns := [], harness := (true, "e624e1ec0ac9e185dbf860bd53a149dedc16b2c07749414d4884608a876bb838"), looks := false }, kinds := [], alts := [], laidByText := true, laidKinds := [.data, .pinned], laidTests := true, laidLooks := .later }
def FnConfigUptoCardSaid : Prop := Claim7.holds Tryd.pinned (.plain (OpenSpec.upto fnConfigSpec)) fnConfigUptoCard

/-- THE SECOND FORM's CARD OF 'laws.FnAbd'. -/
def fnAbdUptoCard : Claim7 := { stood := { row := fnAbdUptoRow, standIns := [], harness := (true, "e624e1ec0ac9e185dbf860bd53a149dedc16b2c07749414d4884608a876bb838"), looks := false }, kinds := [], alts := [], laidByText := true, laidKinds := [.data, .pinned], laidTests := true, laidLooks := .later }
def FnAbdUptoCardSaid : Prop := Claim7.holds Tryd.pinned (.plain (OpenSpec.upto fnAbdSpec)) fnAbdUptoCard

/-- THE SECOND FORM's CARD OF 'laws.FnLocal'. -/
def fnLocalUptoCard : Claim7 := { stood := { row := fnLocalUptoRow, standIns := [], harness := (true, "e624e1ec0ac9e185dbf860bd53a149dedc16b2c07749414d4884608a876bb838"), looks := false }, kinds := [], alts := [], laidByText := true, laidKinds := [.data, .pinned], laidTests := true, laidLooks := .later }
def FnLocalUptoCardSaid : Prop := Claim7.holds Tryd.pinned (.plain (OpenSpec.upto fnLocalSpec)) fnLocalUptoCard
end Rows
end Go.Proofs.YtmekmgblgohbdaaDoor
