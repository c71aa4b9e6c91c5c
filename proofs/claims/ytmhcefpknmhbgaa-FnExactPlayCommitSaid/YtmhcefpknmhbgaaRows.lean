/-
  No cell of these rows narrows 'for every input' (looked for: loops, veiled, ifaces, maps, wideKeys, modest, calm, conditions, laid).
  DERIVED. THE GIVEN ROWS OF THIS SEAT. 6 by the template 'for every input the law returns true; each argument reads behind the call as it read before'; 0 by the template 'total and deterministic' (their statements: YtmhcefpknmhbgaaTotals.lean).
  GIVEN WITH THE SEED: the statements are not yours to turn. If you find one false, say at which input.
  Laid BY PROGRAM, IN A SANDBOX (cutbox-rows.mjs): the forced cells as the released guide's own fill.sh prints them over the translation 4bea25b47c9e58bc… (all of the seat's roots in one cut). By AI agents, Wed Nov 11 2026. No macro, syntax, notation, axiom, sorry.
-/
import Derived.Test.YtmhcefpknmhbgaaChecked
import GoSem.Claim
import GoSem.ClaimJoined
import GoSem.ClaimMapViews
import Derived.JoinedTies
import Derived.KernelRfl
namespace Go.Proofs.Ytmhcefpknmhbgaa
/- THE CELL 'sum', in the pinned program and in every row, IS THE sha256 OF THE DUMP (.gsa) THAT YtmhcefpknmhbgaaProg.lean LOADS. Nothing in Lean hashes anything: it is a label: what it is worth is what the hold of that sum in a sandbox is worth. -/
noncomputable def Try.pinned : Pinned := { name := "ytmhcefpknmhbgaa", sum := "4bea25b47c9e58bc2c00fc00bf8f301103bd13ea994e81c3f9f90f830211eb1c", checked := Try.checked }
namespace Rows
def none {H : Type} : Left H := { results := [], args := [] }

/-- 'laws.FnFence': WHATEVER THE INPUT: true; the input reads as it did. -/
def fnFenceSpec : ChangeSpec := { name := "fnFence", fn := fun _ => fun
  | [d] => { results := [.lit (.bool true)], args := [d] }
  | _ => none }
def fnFenceRow : OpenClaim := { program := "ytmhcefpknmhbgaa", sum := "4bea25b47c9e58bc2c00fc00bf8f301103bd13ea994e81c3f9f90f830211eb1c", func := "loop.example/g00218/laws.FnFence", spec := "fnFence", unfollowed := true, recurses := true, apart := false }
def FnFenceSaid : Prop := fnFenceRow.holds Try.pinned (OpenSpec.ofChange fnFenceSpec)

/-- ITS FALSE NEIGHBOUR: 'it returns false'. Refute it at one input. -/
def fnFenceWrong : ChangeSpec := { name := "fnFence", fn := fun _ => fun
  | [d] => { results := [.lit (.bool false)], args := [d] }
  | _ => none }
def FnFenceWrongFalsely : Prop := fnFenceRow.holds Try.pinned (OpenSpec.ofChange fnFenceWrong)

/-- 'laws.FnExactPlayFence': WHATEVER THE INPUT: true; the input reads as it did. -/
def fnExactPlayFenceSpec : ChangeSpec := { name := "fnExactPlayFence", fn := fun _ => fun
  | [d1, d2] => { results := [.lit (.bool true)], args := [d1, d2] }
  | _ => none }
def fnExactPlayFenceRow : OpenClaim := { program := "ytmhcefpknmhbgaa", sum := "4bea25b47c9e58bc2c00fc00bf8f301103bd13ea994e81c3f9f90f830211eb1c", func := "loop.example/g00218/laws.FnExactPlayFence", spec := "fnExactPlayFence", unfollowed := true, recurses := true, apart := false }
def FnExactPlayFenceSaid : Prop := fnExactPlayFenceRow.holds Try.pinned (OpenSpec.ofChange fnExactPlayFenceSpec)

/-- ITS FALSE NEIGHBOUR: 'it returns false'. Refute it at one input. -/
def fnExactPlayFenceWrong : ChangeSpec := { name := "fnExactPlayFence", fn := fun _ => fun
  | [d1, d2] => { results := [.lit (.bool false)], args := [d1, d2] }
  | _ => none }
def FnExactPlayFenceWrongFalsely : Prop := fnExactPlayFenceRow.holds Try.pinned (OpenSpec.ofChange fnExactPlayFenceWrong)

/-- 'laws.FnExactStepFence': WHATEVER THE INPUT: true; the input reads as it did. -/
def fnExactStepFenceSpec : ChangeSpec := { name := "fnExactStepFence", fn := fun _ => fun
  | [d1, d2] => { results := [.lit (.bool true)], args := [d1, d2] }
  | _ => none }
def fnExactStepFenceRow : OpenClaim := { program := "ytmhcefpknmhbgaa", sum := "4bea25b47c9e58bc2c00fc00bf8f301103bd13ea994e81c3f9f90f830211eb1c", func := "loop.example/g00218/laws.FnExactStepFence", spec := "fnExactStepFence", unfollowed := true, recurses := true, apart := false }
def FnExactStepFenceSaid : Prop := fnExactStepFenceRow.holds Try.pinned (OpenSpec.ofChange fnExactStepFenceSpec)

/-- ITS FALSE NEIGHBOUR: 'it returns false'. Refute it at one input. -/
def fnExactStepFenceWrong : ChangeSpec := { name := "fnExactStepFence", fn := fun _ => fun
  | [d1, d2] => { results := [.lit (.bool false)], args := [d1, d2] }
  | _ => none }
def FnExactStepFenceWrongFalsely : Prop := fnExactStepFenceRow.holds Try.pinned (OpenSpec.ofChange fnExactStepFenceWrong)

/-- 'laws.FnCommit': WHATEVER THE INPUT: true; the input reads as it did. -/
def fnCommitSpec : ChangeSpec := { name := "fnCommit", fn := fun _ => fun
  | [d] => { results := [.lit (.bool true)], args := [d] }
  | _ => none }
def fnCommitRow : OpenClaim := { program := "ytmhcefpknmhbgaa", sum := "4bea25b47c9e58bc2c00fc00bf8f301103bd13ea994e81c3f9f90f830211eb1c", func := "loop.example/g00218/laws.FnCommit", spec := "fnCommit", unfollowed := true, recurses := true, apart := false }
def FnCommitSaid : Prop := fnCommitRow.holds Try.pinned (OpenSpec.ofChange fnCommitSpec)

/-- ITS FALSE NEIGHBOUR: 'it returns false'. Refute it at one input. -/
def fnCommitWrong : ChangeSpec := { name := "fnCommit", fn := fun _ => fun
  | [d] => { results := [.lit (.bool false)], args := [d] }
  | _ => none }
def FnCommitWrongFalsely : Prop := fnCommitRow.holds Try.pinned (OpenSpec.ofChange fnCommitWrong)

/-- 'laws.FnExactStepCommit': WHATEVER THE INPUT: true; the input reads as it did. -/
def fnExactStepCommitSpec : ChangeSpec := { name := "fnExactStepCommit", fn := fun _ => fun
  | [d1, d2] => { results := [.lit (.bool true)], args := [d1, d2] }
  | _ => none }
def fnExactStepCommitRow : OpenClaim := { program := "ytmhcefpknmhbgaa", sum := "4bea25b47c9e58bc2c00fc00bf8f301103bd13ea994e81c3f9f90f830211eb1c", func := "loop.example/g00218/laws.FnExactStepCommit", spec := "fnExactStepCommit", unfollowed := true, recurses := true, apart := false }
def FnExactStepCommitSaid : Prop := fnExactStepCommitRow.holds Try.pinned (OpenSpec.ofChange fnExactStepCommitSpec)

/-- ITS FALSE NEIGHBOUR: 'it returns false'. Refute it at one input. -/
def fnExactStepCommitWrong : ChangeSpec := { name := "fnExactStepCommit", fn := fun _ => fun
  | [d1, d2] => { results := [.lit (.bool false)], args := [d1, d2] }
  | _ => none }
def FnExactStepCommitWrongFalsely : Prop := fnExactStepCommitRow.holds Try.pinned (OpenSpec.ofChange fnExactStepCommitWrong)

/-- 'laws.FnExactPlayCommit': WHATEVER THE INPUT: true; the input reads as it did. -/
def fnExactPlayCommitSpec : ChangeSpec := { name := "fnExactPlayCommit", fn := fun _ => fun
  | [d1, d2] => { results := [.lit (.bool true)], args := [d1, d2] }
  | _ => none }
def fnExactPlayCommitRow : OpenClaim := { program := "ytmhcefpknmhbgaa", sum := "4bea25b47c9e58bc2c00fc00bf8f301103bd13ea994e81c3f9f90f830211eb1c", func := "loop.example/g00218/laws.FnExactPlayCommit", spec := "fnExactPlayCommit", unfollowed := true, recurses := true, apart := false }
def FnExactPlayCommitSaid : Prop := fnExactPlayCommitRow.holds Try.pinned (OpenSpec.ofChange fnExactPlayCommitSpec)

/-- ITS FALSE NEIGHBOUR: 'it returns false'. Refute it at one input. -/
def fnExactPlayCommitWrong : ChangeSpec := { name := "fnExactPlayCommit", fn := fun _ => fun
  | [d1, d2] => { results := [.lit (.bool false)], args := [d1, d2] }
  | _ => none }
def FnExactPlayCommitWrongFalsely : Prop := fnExactPlayCommitRow.holds Try.pinned (OpenSpec.ofChange fnExactPlayCommitWrong)

/- THE SECOND FORM. 'bulk': how many values and letters a reading holds, each counted each time it is reached (what is shared counts as often as it is met; a slice's spare places count too). A statement '..UptoSaid' is the law's where the arguments, and the package variables that the reading takes, are together of bulk at most 1048576: NARROWER than '..Said'. Prove '..Said' where nothing that the law and all that it calls make is longer than what came in: it says more and counts as full. Else prove '..UptoSaid'. A law counts once. -/
mutual
def uptoBulk {H : Type} : DataW H → Nat
  | .lit (.string bytes) => bytes.length + 1
  | .lit _ => 1
  | .nil => 1
  | .ptr d => uptoBulk d + 1
  | .slice elems spare => uptoBulkAll elems + uptoBulkAll spare + 1
  | .agg parts => uptoBulkAll parts + 1
  | .iface _ d => uptoBulk d + 1
  | .map entries => uptoBulkEntries entries + 1
  | .held _ => 1
def uptoBulkAll {H : Type} : List (DataW H) → Nat
  | [] => 0
  | d :: r => uptoBulk d + uptoBulkAll r
def uptoBulkEntries {H : Type} : List (Lit × DataW H) → Nat
  | [] => 0
  | x :: r => uptoBulkEntry x + uptoBulkEntries r
def uptoBulkEntry {H : Type} : Lit × DataW H → Nat
  | (.string bytes, d) => bytes.length + uptoBulk d + 1
  | (_, d) => uptoBulk d + 1
 end
def uptoSmall : (H : Type) → List (DataW H) → Bool := fun _ ds => decide (uptoBulkAll ds ≤ 1048576)
def OpenSpec.upto (s : _root_.Go.ChangeSpec) : _root_.Go.OpenSpec := { _root_.Go.OpenSpec.ofChange s with cond := some uptoSmall }

/-- 'laws.FnFence', WHERE WHAT IT READS IS OF BULK AT MOST 1048576: true; the input reads as it did. -/
def fnFenceUptoRow : OpenClaim := { program := "ytmhcefpknmhbgaa", sum := "4bea25b47c9e58bc2c00fc00bf8f301103bd13ea994e81c3f9f90f830211eb1c", func := "loop.example/g00218/laws.FnFence", spec := "fnFence", unfollowed := true, recurses := true, apart := false, narrowed := true }
def FnFenceUptoSaid : Prop := fnFenceUptoRow.holds Try.pinned (OpenSpec.upto fnFenceSpec)

/-- 'laws.FnExactPlayFence', WHERE WHAT IT READS IS OF BULK AT MOST 1048576: true; the input reads as it did. -/
def fnExactPlayFenceUptoRow : OpenClaim := { program := "ytmhcefpknmhbgaa", sum := "4bea25b47c9e58bc2c00fc00bf8f301103bd13ea994e81c3f9f90f830211eb1c", func := "loop.example/g00218/laws.FnExactPlayFence", spec := "fnExactPlayFence", unfollowed := true, recurses := true, apart := false, narrowed := true }
def FnExactPlayFenceUptoSaid : Prop := fnExactPlayFenceUptoRow.holds Try.pinned (OpenSpec.upto fnExactPlayFenceSpec)

/-- 'laws.FnExactStepFence', WHERE WHAT IT READS IS OF BULK AT MOST 1048576: true; the input reads as it did. -/
def fnExactStepFenceUptoRow : OpenClaim := { program := "ytmhcefpknmhbgaa", sum := "4bea25b47c9e58bc2c00fc00bf8f301103bd13ea994e81c3f9f90f830211eb1c", func := "loop.example/g00218/laws.FnExactStepFence", spec := "fnExactStepFence", unfollowed := true, recurses := true, apart := false, narrowed := true }
def FnExactStepFenceUptoSaid : Prop := fnExactStepFenceUptoRow.holds Try.pinned (OpenSpec.upto fnExactStepFenceSpec)

/-- 'laws.FnCommit', WHERE WHAT IT READS IS OF BULK AT MOST 1048576: true; the input reads as it did. -/
def fnCommitUptoRow : OpenClaim := { program := "ytmhcefpknmhbgaa", sum := "4bea25b47c9e58bc2c00fc00bf8f301103bd13ea994e81c3f9f90f830211eb1c", func := "loop.example/g00218/laws.FnCommit", spec := "fnCommit", unfollowed := true, recurses := true, apart := false, narrowed := true }
def FnCommitUptoSaid : Prop := fnCommitUptoRow.holds Try.pinned (OpenSpec.upto fnCommitSpec)

/-- 'laws.FnExactStepCommit', WHERE WHAT IT READS IS OF BULK AT MOST 1048576: true; the input reads as it did. -/
def fnExactStepCommitUptoRow : OpenClaim := { program := "ytmhcefpknmhbgaa", sum := "4bea25b47c9e58bc2c00fc00bf8f301103bd13ea994e81c3f9f90f830211eb1c", func := "loop.example/g00218/laws.FnExactStepCommit", spec := "fnExactStepCommit", unfollowed := true, recurses := true, apart := false, narrowed := true }
def FnExactStepCommitUptoSaid : Prop := fnExactStepCommitUptoRow.holds Try.pinned (OpenSpec.upto fnExactStepCommitSpec)

/-- 'laws.FnExactPlayCommit', WHERE WHAT IT READS IS OF BULK AT MOST 1048576: true; the input reads as it did. -/
def fnExactPlayCommitUptoRow : OpenClaim := { program := "ytmhcefpknmhbgaa", sum := "4bea25b47c9e58bc2c00fc00bf8f301103bd13ea994e81c3f9f90f830211eb1c", func := "loop.example/g00218/laws.FnExactPlayCommit", spec := "fnExactPlayCommit", unfollowed := true, recurses := true, apart := false, narrowed := true }
def FnExactPlayCommitUptoSaid : Prop := fnExactPlayCommitUptoRow.holds Try.pinned (OpenSpec.upto fnExactPlayCommitSpec)

end Rows
end Go.Proofs.Ytmhcefpknmhbgaa
