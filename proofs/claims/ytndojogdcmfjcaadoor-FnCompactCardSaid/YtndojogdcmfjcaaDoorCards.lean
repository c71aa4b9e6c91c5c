/-
  DERIVED. GIVEN WITH THE SEED: THE CARDS: each row of YtndojogdcmfjcaaDoorRows.lean that lists a variable, with what it lists TIED to the program's text (the seventh form; the later family's looks); each row that meets fmt, with fmt's text TOLD by the authors' own Lean function (tested against real Go, not proved from fmt's source: count such statements apart). THE CARD IS WHAT COUNTS. Prove the row's statement (the work); the ties are given (YtndojogdcmfjcaaDoorTie.lean); close each card by the builder's one call (the guide's Derived/Test/ToyasCard.lean, 'card_holds'). Laid BY PROGRAM, IN A SANDBOX (cutbox-door.mjs). By AI agents, Wed Nov 11 2026. No macro, syntax, notation, axiom, sorry.
-/
import Derived.Test.YtndojogdcmfjcaaDoorRows
import GoSem.ClaimSeven
namespace Go.Proofs.YtndojogdcmfjcaaDoor
namespace Rows

/-- THE TIED CARD OF 'laws.FnThomas'. -/
def fnThomasCard : Claim7 := { stood := { row := fnThomasRow, standIns := [], harness := (true, "b33a3054e9fe124460031519539483d9c556825bcce2af549280170e4ea8b7f3"), looks := true }, kinds := [], alts := [], laidByText := true, laidKinds := [.data, .pinned], laidTests := true, laidLooks := .later }
def FnThomasCardSaid : Prop := Claim7.holds Tryd.pinned (.plain (OpenSpec.ofChange fnThomasSpec)) fnThomasCard

/-- THE TIED CARD OF 'laws.FnCompact'. -/
def fnCompactCard : Claim7 := { stood := { row := fnCompactRow, standIns := [], harness := (true, "b33a3054e9fe124460031519539483d9c556825bcce2af549280170e4ea8b7f3"), looks := true }, kinds := [], alts := [], laidByText := true, laidKinds := [.data, .pinned], laidTests := true, laidLooks := .later }
def FnCompactCardSaid : Prop := Claim7.holds Tryd.pinned (.plain (OpenSpec.ofChange fnCompactSpec)) fnCompactCard

/-- THE TIED CARD OF 'laws.FnLogText'. -/
def fnLogTextCard : Claim7 := { stood := { row := fnLogTextRow, standIns := [], harness := (true, "b33a3054e9fe124460031519539483d9c556825bcce2af549280170e4ea8b7f3"), looks := true }, kinds := [], alts := [], laidByText := true, laidKinds := [.data, .data, .data, .data, .sentinel, .sentinel, .pinned], laidTests := true, laidLooks := .later }
def FnLogTextCardSaid : Prop := Claim7.holds Tryd.pinned (.plain (OpenSpec.ofChange fnLogTextSpec)) fnLogTextCard

/-- THE TIED CARD OF 'laws.FnLinear'. -/
def fnLinearCard : Claim7 := { stood := { row := fnLinearRow, standIns := [], harness := (true, "b33a3054e9fe124460031519539483d9c556825bcce2af549280170e4ea8b7f3"), looks := true }, kinds := [], alts := [], laidByText := true, laidKinds := [.data, .pinned], laidTests := true, laidLooks := .later }
def FnLinearCardSaid : Prop := Claim7.holds Tryd.pinned (.plain (OpenSpec.ofChange fnLinearSpec)) fnLinearCard

/-- THE TIED CARD OF 'laws.FnGranted'. -/
def fnGrantedCard : Claim7 := { stood := { row := fnGrantedRow, standIns := [], harness := (true, "b33a3054e9fe124460031519539483d9c556825bcce2af549280170e4ea8b7f3"), looks := true }, kinds := [], alts := [], laidByText := true, laidKinds := [.data, .pinned], laidTests := true, laidLooks := .later }
def FnGrantedCardSaid : Prop := Claim7.holds Tryd.pinned (.plain (OpenSpec.ofChange fnGrantedSpec)) fnGrantedCard

/-- THE SECOND FORM's CARD OF 'laws.FnThomas'. -/
def fnThomasUptoCard : Claim7 := { stood := { row := fnThomasUptoRow, standIns := [], harness := (true, "b33a3054e9fe124460031519539483d9c556825bcce2af549280170e4ea8b7f3"), looks := true }, kinds := [], alts := [], laidByText := true, laidKinds := [.data, .pinned], laidTests := true, laidLooks := .later }
def FnThomasUptoCardSaid : Prop := Claim7.holds Tryd.pinned (.plain (OpenSpec.upto fnThomasSpec)) fnThomasUptoCard

/-- THE SECOND FORM's CARD OF 'laws.FnCompact'. -/
def fnCompactUptoCard : Claim7 := { stood := { row := fnCompactUptoRow, standIns := [], harness := (true, "b33a3054e9fe124460031519539483d9c556825bcce2af549280170e4ea8b7f3"), looks := true }, kinds := [], alts := [], laidByText := true, laidKinds := [.data, .pinned], laidTests := true, laidLooks := .later }
def FnCompactUptoCardSaid : Prop := Claim7.holds Tryd.pinned (.plain (OpenSpec.upto fnCompactSpec)) fnCompactUptoCard

/-- THE SECOND FORM's CARD OF 'laws.FnLogText'. -/
def fnLogTextUptoCard : Claim7 := { stood := { row := fnLogTextUptoRow, standIns := [], harness := (true, "b33a3054e9fe124460031519539483d9c556825bcce2af549280170e4ea8b7f3"), looks := true }, kinds := [], alts := [], laidByText := true, laidKinds := [.data, .data, .data, .data, .sentinel, .sentinel, .pinned], laidTests := true, laidLooks := .later }
def FnLogTextUptoCardSaid : Prop := Claim7.holds Tryd.pinned (.plain (OpenSpec.upto fnLogTextSpec)) fnLogTextUptoCard

/-- THE SECOND FORM's CARD OF 'laws.FnLinear'. -/
def fnLinearUptoCard : Claim7 := { stood := { row := fnLinearUptoRow, standIns := [], harness := (true, "b33a3054e9fe124460031519539483d9c556825bcce2af549280170e4ea8b7f3"), looks := true }, kinds := [], alts := [], laidByText := true, laidKinds := [.data, .pinned], laidTests := true, laidLooks := .later }
def FnLinearUptoCardSaid : Prop := Claim7.holds Tryd.pinned (.plain (OpenSpec.upto fnLinearSpec)) fnLinearUptoCard

/-- THE SECOND FORM's CARD OF 'laws.FnGranted'. -/
def fnGrantedUptoCard : Claim7 := { stood := { row := fnGrantedUptoRow, standIns := [], harness := (true, "b33a3054e9fe124460031519539483d9c556825bcce2af549280170e4ea8b7f3"), looks := true }, kinds := [], alts := [], laidByText := true, laidKinds := [.data, .pinned], laidTests := true, laidLooks := .later }
def FnGrantedUptoCardSaid : Prop := Claim7.holds Tryd.pinned (.plain (OpenSpec.upto fnGrantedSpec)) fnGrantedUptoCard
end Rows
end Go.Proofs.YtndojogdcmfjcaaDoor
