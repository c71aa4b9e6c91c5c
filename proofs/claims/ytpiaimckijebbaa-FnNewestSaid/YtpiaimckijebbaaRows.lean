/-
  No cell of these rows narrows 'for every input' (looked for: loops, veiled, ifaces, maps, wideKeys, modest, calm, conditions, laid).
  DERIVED. THE GIVEN ROWS OF THIS SEAT. 3 by the template 'for every input the law returns true; each argument reads behind the call as it read before'; 0 by the template 'total and deterministic' (their statements: YtpiaimckijebbaaTotals.lean).
  GIVEN WITH THE SEED: the statements are not yours to turn. If you find one false, say at which input.
  Laid BY PROGRAM, IN A SANDBOX (cutbox-rows.mjs): the forced cells as the released guide's own fill.sh prints them over the translation b238d47ce19ca27a… (all of the seat's roots in one cut). By AI agents, Wed Nov 11 2026. No macro, syntax, notation, axiom, sorry.
-/
import Derived.Test.YtpiaimckijebbaaChecked
import GoSem.Claim
import GoSem.ClaimJoined
import GoSem.ClaimMapViews
import Derived.JoinedTies
import Derived.KernelRfl
namespace Go.Proofs.Ytpiaimckijebbaa
/- THE CELL 'sum', in the pinned program and in every row, IS THE sha256 OF THE DUMP (.gsa) THAT YtpiaimckijebbaaProg.lean LOADS. Nothing in Lean hashes anything: it is a label: what it is worth is what the hold of that sum in a sandbox is worth. -/
noncomputable def Try.pinned : Pinned := { name := "ytpiaimckijebbaa", sum := "b238d47ce19ca27a8949ab6494af65064ff87e83fff11a43f4982425463d9d43", checked := Try.checked }
namespace Rows
def none {H : Type} : Left H := { results := [], args := [] }

/-- 'laws.FnNewest': WHATEVER THE INPUT: true; the input reads as it did. -/
def fnNewestSpec : ChangeSpec := { name := "fnNewest", fn := fun _ => fun
  | [d1, d2] => { results := [.lit (.bool true)], args := [d1, d2] }
  | _ => none }
def fnNewestRow : OpenClaim := { program := "ytpiaimckijebbaa", sum := "b238d47ce19ca27a8949ab6494af65064ff87e83fff11a43f4982425463d9d43", func := "loop.example/g00218/laws.FnNewest", spec := "fnNewest", inPlace := ["slices.overlaps[int]"], unfollowed := true, recurses := true, apart := false }
def FnNewestSaid : Prop := fnNewestRow.holds Try.pinned (OpenSpec.ofChange fnNewestSpec)

/-- ITS FALSE NEIGHBOUR: 'it returns false'. Refute it at one input. -/
def fnNewestWrong : ChangeSpec := { name := "fnNewest", fn := fun _ => fun
  | [d1, d2] => { results := [.lit (.bool false)], args := [d1, d2] }
  | _ => none }
def FnNewestWrongFalsely : Prop := fnNewestRow.holds Try.pinned (OpenSpec.ofChange fnNewestWrong)

/-- 'laws.FnExactPlayRegister': WHATEVER THE INPUT: true; the input reads as it did. -/
def fnExactPlayRegisterSpec : ChangeSpec := { name := "fnExactPlayRegister", fn := fun _ => fun
  | [d1, d2] => { results := [.lit (.bool true)], args := [d1, d2] }
  | _ => none }
def fnExactPlayRegisterRow : OpenClaim := { program := "ytpiaimckijebbaa", sum := "b238d47ce19ca27a8949ab6494af65064ff87e83fff11a43f4982425463d9d43", func := "loop.example/g00218/laws.FnExactPlayRegister", spec := "fnExactPlayRegister", inPlace := ["slices.overlaps[int]"], unfollowed := true, recurses := true, apart := false }
def FnExactPlayRegisterSaid : Prop := fnExactPlayRegisterRow.holds Try.pinned (OpenSpec.ofChange fnExactPlayRegisterSpec)

/-- ITS FALSE NEIGHBOUR: 'it returns false'. Refute it at one input. -/
def fnExactPlayRegisterWrong : ChangeSpec := { name := "fnExactPlayRegister", fn := fun _ => fun
  | [d1, d2] => { results := [.lit (.bool false)], args := [d1, d2] }
  | _ => none }
def FnExactPlayRegisterWrongFalsely : Prop := fnExactPlayRegisterRow.holds Try.pinned (OpenSpec.ofChange fnExactPlayRegisterWrong)

/-- 'laws.FnExactStepRegister': WHATEVER THE INPUT: true; the input reads as it did. -/
def fnExactStepRegisterSpec : ChangeSpec := { name := "fnExactStepRegister", fn := fun _ => fun
  | [d1, d2] => { results := [.lit (.bool true)], args := [d1, d2] }
  | _ => none }
def fnExactStepRegisterRow : OpenClaim := { program := "ytpiaimckijebbaa", sum := "b238d47ce19ca27a8949ab6494af65064ff87e83fff11a43f4982425463d9d43", func := "loop.example/g00218/laws.FnExactStepRegister", spec := "fnExactStepRegister", inPlace := ["slices.overlaps[int]"], unfollowed := true, recurses := true, apart := false }
def FnExactStepRegisterSaid : Prop := fnExactStepRegisterRow.holds Try.pinned (OpenSpec.ofChange fnExactStepRegisterSpec)

/-- ITS FALSE NEIGHBOUR: 'it returns false'. Refute it at one input. -/
def fnExactStepRegisterWrong : ChangeSpec := { name := "fnExactStepRegister", fn := fun _ => fun
  | [d1, d2] => { results := [.lit (.bool false)], args := [d1, d2] }
  | _ => none }
def FnExactStepRegisterWrongFalsely : Prop := fnExactStepRegisterRow.holds Try.pinned (OpenSpec.ofChange fnExactStepRegisterWrong)

/- THE SECOND FORM. 'bulk': how many values and letters a reading holds, each counted each time it is reached (what is shared counts as often as it is met; a slice's spare places count too). A statement '..UptoSaid' is the law's where the arguments, and the package variables that the reading takes, are together of bulk at most 1048576: NARROWER than '..Said'. Prove '..Said' where nothing that the law and all that it calls make is longer than what came in: it says more and counts as full. Else prove '..UptoSaid'. A law counts once. -/
mutual
def uptoBulk {H : Type} : DataW H → Nat
  | .lit (.string bytes) => bytes.length + 1
  | .lit _ => 1
  | .nil => 1
  | .ptr d => uptoBulk d + 1
  | .slice elems spare => uptoBulkAll elems + uptoBulkAll spare + 1
  | .agg parts => uptoBulkAll parts + 1
  | .iface _ d => uptoBulk d + 1
  | .map entries => uptoBulkEntries entries + 1
  | .held _ => 1
def uptoBulkAll {H : Type} : List (DataW H) → Nat
  | [] => 0
  | d :: r => uptoBulk d + uptoBulkAll r
def uptoBulkEntries {H : Type} : List (Lit × DataW H) → Nat
  | [] => 0
  | x :: r => uptoBulkEntry x + uptoBulkEntries r
def uptoBulkEntry {H : Type} : Lit × DataW H → Nat
  | (.string bytes, d) => bytes.length + uptoBulk d + 1
  | (_, d) => uptoBulk d + 1
 end
def uptoSmall : (H : Type) → List (DataW H) → Bool := fun _ ds => decide (uptoBulkAll ds ≤ 1048576)
def OpenSpec.upto (s : _root_.Go.ChangeSpec) : _root_.Go.OpenSpec := { _root_.Go.OpenSpec.ofChange s with cond := some uptoSmall }

/-- 'laws.FnNewest', WHERE WHAT IT READS IS OF BULK AT MOST 1048576: true; the input reads as it did. -/
def fnNewestUptoRow : OpenClaim := { program := "ytpiaimckijebbaa", sum := "b238d47ce19ca27a8949ab6494af65064ff87e83fff11a43f4982425463d9d43", func := "loop.example/g00218/laws.FnNewest", spec := "fnNewest", inPlace := ["slices.overlaps[int]"], unfollowed := true, recurses := true, apart := false, narrowed := true }
def FnNewestUptoSaid : Prop := fnNewestUptoRow.holds Try.pinned (OpenSpec.upto fnNewestSpec)

/-- 'laws.FnExactPlayRegister', WHERE WHAT IT READS IS OF BULK AT MOST 1048576: true; the input reads as it did. -/
def fnExactPlayRegisterUptoRow : OpenClaim := { program := "ytpiaimckijebbaa", sum := "b238d47ce19ca27a8949ab6494af65064ff87e83fff11a43f4982425463d9d43", func := "loop.example/g00218/laws.FnExactPlayRegister", spec := "fnExactPlayRegister", inPlace := ["slices.overlaps[int]"], unfollowed := true, recurses := true, apart := false, narrowed := true }
def FnExactPlayRegisterUptoSaid : Prop := fnExactPlayRegisterUptoRow.holds Try.pinned (OpenSpec.upto fnExactPlayRegisterSpec)

/-- 'laws.FnExactStepRegister', WHERE WHAT IT READS IS OF BULK AT MOST 1048576: true; the input reads as it did. -/
def fnExactStepRegisterUptoRow : OpenClaim := { program := "ytpiaimckijebbaa", sum := "b238d47ce19ca27a8949ab6494af65064ff87e83fff11a43f4982425463d9d43", func := "loop.example/g00218/laws.FnExactStepRegister", spec := "fnExactStepRegister", inPlace := ["slices.overlaps[int]"], unfollowed := true, recurses := true, apart := false, narrowed := true }
def FnExactStepRegisterUptoSaid : Prop := fnExactStepRegisterUptoRow.holds Try.pinned (OpenSpec.upto fnExactStepRegisterSpec)

end Rows
end Go.Proofs.Ytpiaimckijebbaa
