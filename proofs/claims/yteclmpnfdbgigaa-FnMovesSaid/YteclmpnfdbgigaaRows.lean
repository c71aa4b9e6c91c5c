/-
  No cell of these rows narrows 'for every input' (looked for: loops, veiled, ifaces, maps, wideKeys, modest, calm, conditions, laid).
  DERIVED. THE GIVEN ROWS OF THIS SEAT. 5 by the template 'for every input the law returns true; each argument reads behind the call as it read before'; 0 by the template 'total and deterministic' (their statements: YteclmpnfdbgigaaTotals.lean).
  GIVEN WITH THE SEED: the statements are not yours to turn. If you find one false, say at which input.
  Laid BY PROGRAM, IN A SANDBOX (cutbox-rows.mjs): the forced cells as the released guide's own fill.sh prints them over the translation e529f36a5407c06d… (all of the seat's roots in one cut). By AI agents, Wed Nov 11 2026. No macro, syntax, notation, axiom, sorry.
-/
import Derived.Test.YteclmpnfdbgigaaChecked
import GoSem.Claim
import GoSem.ClaimJoined
import GoSem.ClaimMapViews
import Derived.JoinedTies
import Derived.KernelRfl
namespace Go.Proofs.Yteclmpnfdbgigaa
/- THE CELL 'sum', in the pinned program and in every row, IS THE sha256 OF THE DUMP (.gsa) THAT YteclmpnfdbgigaaProg.lean LOADS. Nothing in Lean hashes anything: it is a label: what it is worth is what the hold of that sum in a sandbox is worth. -/
noncomputable def Try.pinned : Pinned := { name := "yteclmpnfdbgigaa", sum := "e529f36a5407c06dbc08617136aeb5effd1827384294ad87e09331684da7324c", checked := Try.checked }
namespace Rows
def none {H : Type} : Left H := { results := [], args := [] }

/-- 'laws.FnCuts': WHATEVER THE INPUT: true; the input reads as it did. -/
def fnCutsSpec : ChangeSpec := { name := "fnCuts", fn := fun _ => fun
  | [d1, d2] => { results := [.lit (.bool true)], args := [d1, d2] }
  | _ => none }
def fnCutsRow : OpenClaim := { program := "yteclmpnfdbgigaa", sum := "e529f36a5407c06dbc08617136aeb5effd1827384294ad87e09331684da7324c", func := "loop.example/g00218/laws.FnCuts", spec := "fnCuts", unfollowed := true, recurses := true, apart := false }
def FnCutsSaid : Prop := fnCutsRow.holds Try.pinned (OpenSpec.ofChange fnCutsSpec)

/-- ITS FALSE NEIGHBOUR: 'it returns false'. Refute it at one input. -/
def fnCutsWrong : ChangeSpec := { name := "fnCuts", fn := fun _ => fun
  | [d1, d2] => { results := [.lit (.bool false)], args := [d1, d2] }
  | _ => none }
def FnCutsWrongFalsely : Prop := fnCutsRow.holds Try.pinned (OpenSpec.ofChange fnCutsWrong)

/-- 'laws.FnExactNewConfig': WHATEVER THE INPUT: true; the input reads as it did. -/
def fnExactNewConfigSpec : ChangeSpec := { name := "fnExactNewConfig", fn := fun _ => fun
  | [d1, d2, d3] => { results := [.lit (.bool true)], args := [d1, d2, d3] }
  | _ => none }
def fnExactNewConfigRow : OpenClaim := { program := "yteclmpnfdbgigaa", sum := "e529f36a5407c06dbc08617136aeb5effd1827384294ad87e09331684da7324c", func := "loop.example/g00218/laws.FnExactNewConfig", spec := "fnExactNewConfig", recurses := true, apart := false }
def FnExactNewConfigSaid : Prop := fnExactNewConfigRow.holds Try.pinned (OpenSpec.ofChange fnExactNewConfigSpec)

/-- ITS FALSE NEIGHBOUR: 'it returns false'. Refute it at one input. -/
def fnExactNewConfigWrong : ChangeSpec := { name := "fnExactNewConfig", fn := fun _ => fun
  | [d1, d2, d3] => { results := [.lit (.bool false)], args := [d1, d2, d3] }
  | _ => none }
def FnExactNewConfigWrongFalsely : Prop := fnExactNewConfigRow.holds Try.pinned (OpenSpec.ofChange fnExactNewConfigWrong)

/-- 'laws.FnExactPlayConfig': WHATEVER THE INPUT: true; the input reads as it did. -/
def fnExactPlayConfigSpec : ChangeSpec := { name := "fnExactPlayConfig", fn := fun _ => fun
  | [d1, d2, d3, d4] => { results := [.lit (.bool true)], args := [d1, d2, d3, d4] }
  | _ => none }
def fnExactPlayConfigRow : OpenClaim := { program := "yteclmpnfdbgigaa", sum := "e529f36a5407c06dbc08617136aeb5effd1827384294ad87e09331684da7324c", func := "loop.example/g00218/laws.FnExactPlayConfig", spec := "fnExactPlayConfig", unfollowed := true, recurses := true, apart := false }
def FnExactPlayConfigSaid : Prop := fnExactPlayConfigRow.holds Try.pinned (OpenSpec.ofChange fnExactPlayConfigSpec)

/-- ITS FALSE NEIGHBOUR: 'it returns false'. Refute it at one input. -/
def fnExactPlayConfigWrong : ChangeSpec := { name := "fnExactPlayConfig", fn := fun _ => fun
  | [d1, d2, d3, d4] => { results := [.lit (.bool false)], args := [d1, d2, d3, d4] }
  | _ => none }
def FnExactPlayConfigWrongFalsely : Prop := fnExactPlayConfigRow.holds Try.pinned (OpenSpec.ofChange fnExactPlayConfigWrong)

/-- 'laws.FnExactStepConfig': WHATEVER THE INPUT: true; the input reads as it did. -/
def fnExactStepConfigSpec : ChangeSpec := { name := "fnExactStepConfig", fn := fun _ => fun
  | [d1, d2] => { results := [.lit (.bool true)], args := [d1, d2] }
  | _ => none }
def fnExactStepConfigRow : OpenClaim := { program := "yteclmpnfdbgigaa", sum := "e529f36a5407c06dbc08617136aeb5effd1827384294ad87e09331684da7324c", func := "loop.example/g00218/laws.FnExactStepConfig", spec := "fnExactStepConfig", unfollowed := true, recurses := true, apart := false }
def FnExactStepConfigSaid : Prop := fnExactStepConfigRow.holds Try.pinned (OpenSpec.ofChange fnExactStepConfigSpec)

/-- ITS FALSE NEIGHBOUR: 'it returns false'. Refute it at one input. -/
def fnExactStepConfigWrong : ChangeSpec := { name := "fnExactStepConfig", fn := fun _ => fun
  | [d1, d2] => { results := [.lit (.bool false)], args := [d1, d2] }
  | _ => none }
def FnExactStepConfigWrongFalsely : Prop := fnExactStepConfigRow.holds Try.pinned (OpenSpec.ofChange fnExactStepConfigWrong)

/-- 'laws.FnMoves': WHATEVER THE INPUT: true; the input reads as it did. -/
def fnMovesSpec : ChangeSpec := { name := "fnMoves", fn := fun _ => fun
  | [d1, d2] => { results := [.lit (.bool true)], args := [d1, d2] }
  | _ => none }
def fnMovesRow : OpenClaim := { program := "yteclmpnfdbgigaa", sum := "e529f36a5407c06dbc08617136aeb5effd1827384294ad87e09331684da7324c", func := "loop.example/g00218/laws.FnMoves", spec := "fnMoves", unfollowed := true, recurses := true, apart := false }
def FnMovesSaid : Prop := fnMovesRow.holds Try.pinned (OpenSpec.ofChange fnMovesSpec)

/-- ITS FALSE NEIGHBOUR: 'it returns false'. Refute it at one input. -/
def fnMovesWrong : ChangeSpec := { name := "fnMoves", fn := fun _ => fun
  | [d1, d2] => { results := [.lit (.bool false)], args := [d1, d2] }
  | _ => none }
def FnMovesWrongFalsely : Prop := fnMovesRow.holds Try.pinned (OpenSpec.ofChange fnMovesWrong)

/- THE SECOND FORM. 'bulk': how many values and letters a reading holds, each counted each time it is reached (what is shared counts as often as it is met; a slice's spare places count too). A statement '..UptoSaid' is the law's where the arguments, and the package variables that the reading takes, are together of bulk at most 1048576: NARROWER than '..Said'. Prove '..Said' where nothing that the law and all that it calls make is longer than what came in: it says more and counts as full. Else prove '..UptoSaid'. A law counts once. -/
mutual
def uptoBulk {H : Type} : DataW H → Nat
  | .lit (.string bytes) => bytes.length + 1
  | .lit _ => 1
  | .nil => 1
  | .ptr d => uptoBulk d + 1
  | .slice elems spare => uptoBulkAll elems + uptoBulkAll spare + 1
  | .agg parts => uptoBulkAll parts + 1
  | .iface _ d => uptoBulk d + 1
  | .map entries => uptoBulkEntries entries + 1
  | .held _ => 1
def uptoBulkAll {H : Type} : List (DataW H) → Nat
  | [] => 0
  | d :: r => uptoBulk d + uptoBulkAll r
def uptoBulkEntries {H : Type} : List (Lit × DataW H) → Nat
  | [] => 0
  | x :: r => uptoBulkEntry x + uptoBulkEntries r
def uptoBulkEntry {H : Type} : Lit × DataW H → Nat
  | (.string bytes, d) => bytes.length + uptoBulk d + 1
  | (_, d) => uptoBulk d + 1
 end
def uptoSmall : (H : Type) → List (DataW H) → Bool := fun _ ds => decide (uptoBulkAll ds ≤ 1048576)
def OpenSpec.upto (s : _root_.Go.ChangeSpec) : _root_.Go.OpenSpec := { _root_.Go.OpenSpec.ofChange s with cond := some uptoSmall }

/-- 'laws.FnCuts', WHERE WHAT IT READS IS OF BULK AT MOST 1048576: true; the input reads as it did. -/
def fnCutsUptoRow : OpenClaim := { program := "yteclmpnfdbgigaa", sum := "e529f36a5407c06dbc08617136aeb5effd1827384294ad87e09331684da7324c", func := "loop.example/g00218/laws.FnCuts", spec := "fnCuts", unfollowed := true, recurses := true, apart := false, narrowed := true }
def FnCutsUptoSaid : Prop := fnCutsUptoRow.holds Try.pinned (OpenSpec.upto fnCutsSpec)

/-- 'laws.FnExactNewConfig', WHERE WHAT IT READS IS OF BULK AT MOST 1048576: true; the input reads as it did. -/
def fnExactNewConfigUptoRow : OpenClaim := { program := "yteclmpnfdbgigaa", sum := "e529f36a5407c06dbc08617136aeb5effd1827384294ad87e09331684da7324c", func := "loop.example/g00218/laws.FnExactNewConfig", spec := "fnExactNewConfig", recurses := true, apart := false, narrowed := true }
def FnExactNewConfigUptoSaid : Prop := fnExactNewConfigUptoRow.holds Try.pinned (OpenSpec.upto fnExactNewConfigSpec)

/-- 'laws.FnExactPlayConfig', WHERE WHAT IT READS IS OF BULK AT MOST 1048576: true; the input reads as it did. -/
def fnExactPlayConfigUptoRow : OpenClaim := { program := "yteclmpnfdbgigaa", sum := "e529f36a5407c06dbc08617136aeb5effd1827384294ad87e09331684da7324c", func := "loop.example/g00218/laws.FnExactPlayConfig", spec := "fnExactPlayConfig", unfollowed := true, recurses := true, apart := false, narrowed := true }
def FnExactPlayConfigUptoSaid : Prop := fnExactPlayConfigUptoRow.holds Try.pinned (OpenSpec.upto fnExactPlayConfigSpec)

/-- 'laws.FnExactStepConfig', WHERE WHAT IT READS IS OF BULK AT MOST 1048576: true; the input reads as it did. -/
def fnExactStepConfigUptoRow : OpenClaim := { program := "yteclmpnfdbgigaa", sum := "e529f36a5407c06dbc08617136aeb5effd1827384294ad87e09331684da7324c", func := "loop.example/g00218/laws.FnExactStepConfig", spec := "fnExactStepConfig", unfollowed := true, recurses := true, apart := false, narrowed := true }
def FnExactStepConfigUptoSaid : Prop := fnExactStepConfigUptoRow.holds Try.pinned (OpenSpec.upto fnExactStepConfigSpec)

/-- 'laws.FnMoves', WHERE WHAT IT READS IS OF BULK AT MOST 1048576: true; the input reads as it did. -/
def fnMovesUptoRow : OpenClaim := { program := "yteclmpnfdbgigaa", sum := "e529f36a5407c06dbc08617136aeb5effd1827384294ad87e09331684da7324c", func := "loop.example/g00218/laws.FnMoves", spec := "fnMoves", unfollowed := true, recurses := true, apart := false, narrowed := true }
def FnMovesUptoSaid : Prop := fnMovesUptoRow.holds Try.pinned (OpenSpec.upto fnMovesSpec)

end Rows
end Go.Proofs.Yteclmpnfdbgigaa
