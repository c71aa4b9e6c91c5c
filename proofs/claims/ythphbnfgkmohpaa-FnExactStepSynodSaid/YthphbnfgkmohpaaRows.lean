/-
  No cell of these rows narrows 'for every input' (looked for: loops, veiled, ifaces, maps, wideKeys, modest, calm, conditions, laid).
  DERIVED. THE GIVEN ROWS OF THIS SEAT. 6 by the template 'for every input the law returns true; each argument reads behind the call as it read before'; 0 by the template 'total and deterministic' (their statements: YthphbnfgkmohpaaTotals.lean).
  GIVEN WITH THE SEED: the statements are not yours to turn. If you find one false, say at which input.
  Laid BY PROGRAM, IN A SANDBOX (cutbox-rows.mjs): the forced cells as the released guide's own fill.sh prints them over the translation 570d7bd1a22a86b7… (all of the seat's roots in one cut). By AI agents, Wed Nov 11 2026. No macro, syntax, notation, axiom, sorry.
-/
import Derived.Test.YthphbnfgkmohpaaChecked
import GoSem.Claim
import GoSem.ClaimJoined
import GoSem.ClaimMapViews
import Derived.JoinedTies
import Derived.KernelRfl
namespace Go.Proofs.Ythphbnfgkmohpaa
/- THE CELL 'sum', in the pinned program and in every row, IS THE sha256 OF THE DUMP (.gsa) THAT YthphbnfgkmohpaaProg.lean LOADS. Nothing in Lean hashes anything: it is a label: what it is worth is what the hold of that sum in a sandbox is worth. -/
noncomputable def Try.pinned : Pinned := { name := "ythphbnfgkmohpaa", sum := "570d7bd1a22a86b7d0562184a300630894eceeff94168e7db516e7f1cd6af675", checked := Try.checked }
namespace Rows
def none {H : Type} : Left H := { results := [], args := [] }

/-- 'laws.FnExactPlaySynod': WHATEVER THE INPUT: true; the input reads as it did. -/
def fnExactPlaySynodSpec : ChangeSpec := { name := "fnExactPlaySynod", fn := fun _ => fun
  | [d1, d2, d3] => { results := [.lit (.bool true)], args := [d1, d2, d3] }
  | _ => none }
def fnExactPlaySynodRow : OpenClaim := { program := "ythphbnfgkmohpaa", sum := "570d7bd1a22a86b7d0562184a300630894eceeff94168e7db516e7f1cd6af675", func := "loop.example/g00218/laws.FnExactPlaySynod", spec := "fnExactPlaySynod", inPlace := ["slices.overlaps[int]", "slices.overlaps[loop.example/g00218/impl.Promise]"], unfollowed := true, recurses := true, apart := false }
def FnExactPlaySynodSaid : Prop := fnExactPlaySynodRow.holds Try.pinned (OpenSpec.ofChange fnExactPlaySynodSpec)

/-- ITS FALSE NEIGHBOUR: 'it returns false'. Refute it at one input. -/
def fnExactPlaySynodWrong : ChangeSpec := { name := "fnExactPlaySynod", fn := fun _ => fun
  | [d1, d2, d3] => { results := [.lit (.bool false)], args := [d1, d2, d3] }
  | _ => none }
def FnExactPlaySynodWrongFalsely : Prop := fnExactPlaySynodRow.holds Try.pinned (OpenSpec.ofChange fnExactPlaySynodWrong)

/-- 'laws.FnExactStepSynod': WHATEVER THE INPUT: true; the input reads as it did. -/
def fnExactStepSynodSpec : ChangeSpec := { name := "fnExactStepSynod", fn := fun _ => fun
  | [d1, d2] => { results := [.lit (.bool true)], args := [d1, d2] }
  | _ => none }
def fnExactStepSynodRow : OpenClaim := { program := "ythphbnfgkmohpaa", sum := "570d7bd1a22a86b7d0562184a300630894eceeff94168e7db516e7f1cd6af675", func := "loop.example/g00218/laws.FnExactStepSynod", spec := "fnExactStepSynod", inPlace := ["slices.overlaps[int]", "slices.overlaps[loop.example/g00218/impl.Promise]"], unfollowed := true, recurses := true, apart := false }
def FnExactStepSynodSaid : Prop := fnExactStepSynodRow.holds Try.pinned (OpenSpec.ofChange fnExactStepSynodSpec)

/-- ITS FALSE NEIGHBOUR: 'it returns false'. Refute it at one input. -/
def fnExactStepSynodWrong : ChangeSpec := { name := "fnExactStepSynod", fn := fun _ => fun
  | [d1, d2] => { results := [.lit (.bool false)], args := [d1, d2] }
  | _ => none }
def FnExactStepSynodWrongFalsely : Prop := fnExactStepSynodRow.holds Try.pinned (OpenSpec.ofChange fnExactStepSynodWrong)

/-- 'laws.FnSynod': WHATEVER THE INPUT: true; the input reads as it did. -/
def fnSynodSpec : ChangeSpec := { name := "fnSynod", fn := fun _ => fun
  | [d] => { results := [.lit (.bool true)], args := [d] }
  | _ => none }
def fnSynodRow : OpenClaim := { program := "ythphbnfgkmohpaa", sum := "570d7bd1a22a86b7d0562184a300630894eceeff94168e7db516e7f1cd6af675", func := "loop.example/g00218/laws.FnSynod", spec := "fnSynod", inPlace := ["slices.overlaps[int]", "slices.overlaps[loop.example/g00218/impl.Promise]"], unfollowed := true, recurses := true, apart := false }
def FnSynodSaid : Prop := fnSynodRow.holds Try.pinned (OpenSpec.ofChange fnSynodSpec)

/-- ITS FALSE NEIGHBOUR: 'it returns false'. Refute it at one input. -/
def fnSynodWrong : ChangeSpec := { name := "fnSynod", fn := fun _ => fun
  | [d] => { results := [.lit (.bool false)], args := [d] }
  | _ => none }
def FnSynodWrongFalsely : Prop := fnSynodRow.holds Try.pinned (OpenSpec.ofChange fnSynodWrong)

/-- 'laws.FnStable': WHATEVER THE INPUT: true; the input reads as it did. -/
def fnStableSpec : ChangeSpec := { name := "fnStable", fn := fun _ => fun
  | [d1, d2] => { results := [.lit (.bool true)], args := [d1, d2] }
  | _ => none }
def fnStableRow : OpenClaim := { program := "ythphbnfgkmohpaa", sum := "570d7bd1a22a86b7d0562184a300630894eceeff94168e7db516e7f1cd6af675", func := "loop.example/g00218/laws.FnStable", spec := "fnStable", inPlace := ["slices.overlaps[int]", "slices.overlaps[loop.example/g00218/impl.Promise]"], unfollowed := true, recurses := true, apart := false }
def FnStableSaid : Prop := fnStableRow.holds Try.pinned (OpenSpec.ofChange fnStableSpec)

/-- ITS FALSE NEIGHBOUR: 'it returns false'. Refute it at one input. -/
def fnStableWrong : ChangeSpec := { name := "fnStable", fn := fun _ => fun
  | [d1, d2] => { results := [.lit (.bool false)], args := [d1, d2] }
  | _ => none }
def FnStableWrongFalsely : Prop := fnStableRow.holds Try.pinned (OpenSpec.ofChange fnStableWrong)

/-- 'laws.FnBags': WHATEVER THE INPUT: true; the input reads as it did. -/
def fnBagsSpec : ChangeSpec := { name := "fnBags", fn := fun _ => fun
  | [d1, d2] => { results := [.lit (.bool true)], args := [d1, d2] }
  | _ => none }
def fnBagsRow : OpenClaim := { program := "ythphbnfgkmohpaa", sum := "570d7bd1a22a86b7d0562184a300630894eceeff94168e7db516e7f1cd6af675", func := "loop.example/g00218/laws.FnBags", spec := "fnBags", unfollowed := true, recurses := true, apart := false }
def FnBagsSaid : Prop := fnBagsRow.holds Try.pinned (OpenSpec.ofChange fnBagsSpec)

/-- ITS FALSE NEIGHBOUR: 'it returns false'. Refute it at one input. -/
def fnBagsWrong : ChangeSpec := { name := "fnBags", fn := fun _ => fun
  | [d1, d2] => { results := [.lit (.bool false)], args := [d1, d2] }
  | _ => none }
def FnBagsWrongFalsely : Prop := fnBagsRow.holds Try.pinned (OpenSpec.ofChange fnBagsWrong)

/-- 'laws.FnTaken': WHATEVER THE INPUT: true; the input reads as it did. -/
def fnTakenSpec : ChangeSpec := { name := "fnTaken", fn := fun _ => fun
  | [d1, d2] => { results := [.lit (.bool true)], args := [d1, d2] }
  | _ => none }
def fnTakenRow : OpenClaim := { program := "ythphbnfgkmohpaa", sum := "570d7bd1a22a86b7d0562184a300630894eceeff94168e7db516e7f1cd6af675", func := "loop.example/g00218/laws.FnTaken", spec := "fnTaken", unfollowed := true, recurses := true, apart := false }
def FnTakenSaid : Prop := fnTakenRow.holds Try.pinned (OpenSpec.ofChange fnTakenSpec)

/-- ITS FALSE NEIGHBOUR: 'it returns false'. Refute it at one input. -/
def fnTakenWrong : ChangeSpec := { name := "fnTaken", fn := fun _ => fun
  | [d1, d2] => { results := [.lit (.bool false)], args := [d1, d2] }
  | _ => none }
def FnTakenWrongFalsely : Prop := fnTakenRow.holds Try.pinned (OpenSpec.ofChange fnTakenWrong)

/- THE SECOND FORM. 'bulk': how many values and letters a reading holds, each counted each time it is reached (what is shared counts as often as it is met; a slice's spare places count too). A statement '..UptoSaid' is the law's where the arguments, and the package variables that the reading takes, are together of bulk at most 1048576: NARROWER than '..Said'. Prove '..Said' where nothing that the law and all that it calls make is longer than what came in: it says more and counts as full. Else prove '..UptoSaid'. A law counts once. -/
mutual
def uptoBulk {H : Type} : DataW H → Nat
  | .lit (.string bytes) => bytes.length + 1
  | .lit _ => 1
  | .nil => 1
  | .ptr d => uptoBulk d + 1
  | .slice elems spare => uptoBulkAll elems + uptoBulkAll spare + 1
  | .agg parts => uptoBulkAll parts + 1
  | .iface _ d => uptoBulk d + 1
  | .map entries => uptoBulkEntries entries + 1
  | .held _ => 1
def uptoBulkAll {H : Type} : List (DataW H) → Nat
  | [] => 0
  | d :: r => uptoBulk d + uptoBulkAll r
def uptoBulkEntries {H : Type} : List (Lit × DataW H) → Nat
  | [] => 0
  | x :: r => uptoBulkEntry x + uptoBulkEntries r
def uptoBulkEntry {H : Type} : Lit × DataW H → Nat
  | (.string bytes, d) => bytes.length + uptoBulk d + 1
  | (_, d) => uptoBulk d + 1
 end
def uptoSmall : (H : Type) → List (DataW H) → Bool := fun _ ds => decide (uptoBulkAll ds ≤ 1048576)
def OpenSpec.upto (s : _root_.Go.ChangeSpec) : _root_.Go.OpenSpec := { _root_.Go.OpenSpec.ofChange s with cond := some uptoSmall }

/-- 'laws.FnExactPlaySynod', WHERE WHAT IT READS IS OF BULK AT MOST 1048576: true; the input reads as it did. -/
def fnExactPlaySynodUptoRow : OpenClaim := { program := "ythphbnfgkmohpaa", sum := "570d7bd1a22a86b7d0562184a300630894eceeff94168e7db516e7f1cd6af675", func := "loop.example/g00218/laws.FnExactPlaySynod", spec := "fnExactPlaySynod", inPlace := ["slices.overlaps[int]", "slices.overlaps[loop.example/g00218/impl.Promise]"], unfollowed := true, recurses := true, apart := false, narrowed := true }
def FnExactPlaySynodUptoSaid : Prop := fnExactPlaySynodUptoRow.holds Try.pinned (OpenSpec.upto fnExactPlaySynodSpec)

/-- 'laws.FnExactStepSynod', WHERE WHAT IT READS IS OF BULK AT MOST 1048576: true; the input reads as it did. -/
def fnExactStepSynodUptoRow : OpenClaim := { program := "ythphbnfgkmohpaa", sum := "570d7bd1a22a86b7d0562184a300630894eceeff94168e7db516e7f1cd6af675", func := "loop.example/g00218/laws.FnExactStepSynod", spec := "fnExactStepSynod", inPlace := ["slices.overlaps[int]", "slices.overlaps[loop.example/g00218/impl.Promise]"], unfollowed := true, recurses := true, apart := false, narrowed := true }
def FnExactStepSynodUptoSaid : Prop := fnExactStepSynodUptoRow.holds Try.pinned (OpenSpec.upto fnExactStepSynodSpec)

/-- 'laws.FnSynod', WHERE WHAT IT READS IS OF BULK AT MOST 1048576: true; the input reads as it did. -/
def fnSynodUptoRow : OpenClaim := { program := "ythphbnfgkmohpaa", sum := "570d7bd1a22a86b7d0562184a300630894eceeff94168e7db516e7f1cd6af675", func := "loop.example/g00218/laws.FnSynod", spec := "fnSynod", inPlace := ["slices.overlaps[int]", "slices.overlaps[loop.example/g00218/impl.Promise]"], unfollowed := true, recurses := true, apart := false, narrowed := true }
def FnSynodUptoSaid : Prop := fnSynodUptoRow.holds Try.pinned (OpenSpec.upto fnSynodSpec)

/-- 'laws.FnStable', WHERE WHAT IT READS IS OF BULK AT MOST 1048576: true; the input reads as it did. -/
def fnStableUptoRow : OpenClaim := { program := "ythphbnfgkmohpaa", sum := "570d7bd1a22a86b7d0562184a300630894eceeff94168e7db516e7f1cd6af675", func := "loop.example/g00218/laws.FnStable", spec := "fnStable", inPlace := ["slices.overlaps[int]", "slices.overlaps[loop.example/g00218/impl.Promise]"], unfollowed := true, recurses := true, apart := false, narrowed := true }
def FnStableUptoSaid : Prop := fnStableUptoRow.holds Try.pinned (OpenSpec.upto fnStableSpec)

/-- 'laws.FnBags', WHERE WHAT IT READS IS OF BULK AT MOST 1048576: true; the input reads as it did. -/
def fnBagsUptoRow : OpenClaim := { program := "ythphbnfgkmohpaa", sum := "570d7bd1a22a86b7d0562184a300630894eceeff94168e7db516e7f1cd6af675", func := "loop.example/g00218/laws.FnBags", spec := "fnBags", unfollowed := true, recurses := true, apart := false, narrowed := true }
def FnBagsUptoSaid : Prop := fnBagsUptoRow.holds Try.pinned (OpenSpec.upto fnBagsSpec)

/-- 'laws.FnTaken', WHERE WHAT IT READS IS OF BULK AT MOST 1048576: true; the input reads as it did. -/
def fnTakenUptoRow : OpenClaim := { program := "ythphbnfgkmohpaa", sum := "570d7bd1a22a86b7d0562184a300630894eceeff94168e7db516e7f1cd6af675", func := "loop.example/g00218/laws.FnTaken", spec := "fnTaken", unfollowed := true, recurses := true, apart := false, narrowed := true }
def FnTakenUptoSaid : Prop := fnTakenUptoRow.holds Try.pinned (OpenSpec.upto fnTakenSpec)

end Rows
end Go.Proofs.Ythphbnfgkmohpaa
