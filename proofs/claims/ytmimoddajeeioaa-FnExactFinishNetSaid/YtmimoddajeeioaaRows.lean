/-
  No cell of these rows narrows 'for every input' (looked for: loops, veiled, ifaces, maps, wideKeys, modest, calm, conditions, laid).
  DERIVED. THE GIVEN ROWS OF THIS SEAT. 6 by the template 'for every input the law returns true; each argument reads behind the call as it read before'; 0 by the template 'total and deterministic' (their statements: YtmimoddajeeioaaTotals.lean).
  GIVEN WITH THE SEED: the statements are not yours to turn. If you find one false, say at which input.
  Laid BY PROGRAM, IN A SANDBOX (cutbox-rows.mjs): the forced cells as the released guide's own fill.sh prints them over the translation 903329e1e8f031c1… (all of the seat's roots in one cut). By AI agents, Wed Nov 11 2026. No macro, syntax, notation, axiom, sorry.
-/
import Derived.Test.YtmimoddajeeioaaChecked
import GoSem.Claim
import GoSem.ClaimJoined
import GoSem.ClaimMapViews
import Derived.JoinedTies
import Derived.KernelRfl
namespace Go.Proofs.Ytmimoddajeeioaa
/- THE CELL 'sum', in the pinned program and in every row, IS THE sha256 OF THE DUMP (.gsa) THAT YtmimoddajeeioaaProg.lean LOADS. Nothing in Lean hashes anything: it is a label: what it is worth is what the hold of that sum in a sandbox is worth. -/
noncomputable def Try.pinned : Pinned := { name := "ytmimoddajeeioaa", sum := "903329e1e8f031c15cbaae213e9e4dd1493e857567c142efcb13f349cfa51519", checked := Try.checked }
namespace Rows
def none {H : Type} : Left H := { results := [], args := [] }

/-- 'laws.FnTold': WHATEVER THE INPUT: true; the input reads as it did. -/
def fnToldSpec : ChangeSpec := { name := "fnTold", fn := fun _ => fun
  | [d1, d2] => { results := [.lit (.bool true)], args := [d1, d2] }
  | _ => none }
def fnToldRow : OpenClaim := { program := "ytmimoddajeeioaa", sum := "903329e1e8f031c15cbaae213e9e4dd1493e857567c142efcb13f349cfa51519", func := "loop.example/g00218/laws.FnTold", spec := "fnTold", unfollowed := true, recurses := true, apart := false }
def FnToldSaid : Prop := fnToldRow.holds Try.pinned (OpenSpec.ofChange fnToldSpec)

/-- ITS FALSE NEIGHBOUR: 'it returns false'. Refute it at one input. -/
def fnToldWrong : ChangeSpec := { name := "fnTold", fn := fun _ => fun
  | [d1, d2] => { results := [.lit (.bool false)], args := [d1, d2] }
  | _ => none }
def FnToldWrongFalsely : Prop := fnToldRow.holds Try.pinned (OpenSpec.ofChange fnToldWrong)

/-- 'laws.FnKept': WHATEVER THE INPUT: true; the input reads as it did. -/
def fnKeptSpec : ChangeSpec := { name := "fnKept", fn := fun _ => fun
  | [d] => { results := [.lit (.bool true)], args := [d] }
  | _ => none }
def fnKeptRow : OpenClaim := { program := "ytmimoddajeeioaa", sum := "903329e1e8f031c15cbaae213e9e4dd1493e857567c142efcb13f349cfa51519", func := "loop.example/g00218/laws.FnKept", spec := "fnKept", unfollowed := true, recurses := true, apart := false }
def FnKeptSaid : Prop := fnKeptRow.holds Try.pinned (OpenSpec.ofChange fnKeptSpec)

/-- ITS FALSE NEIGHBOUR: 'it returns false'. Refute it at one input. -/
def fnKeptWrong : ChangeSpec := { name := "fnKept", fn := fun _ => fun
  | [d] => { results := [.lit (.bool false)], args := [d] }
  | _ => none }
def FnKeptWrongFalsely : Prop := fnKeptRow.holds Try.pinned (OpenSpec.ofChange fnKeptWrong)

/-- 'laws.FnPicture': WHATEVER THE INPUT: true; the input reads as it did. -/
def fnPictureSpec : ChangeSpec := { name := "fnPicture", fn := fun _ => fun
  | [d] => { results := [.lit (.bool true)], args := [d] }
  | _ => none }
def fnPictureRow : OpenClaim := { program := "ytmimoddajeeioaa", sum := "903329e1e8f031c15cbaae213e9e4dd1493e857567c142efcb13f349cfa51519", func := "loop.example/g00218/laws.FnPicture", spec := "fnPicture", unfollowed := true, recurses := true, apart := false }
def FnPictureSaid : Prop := fnPictureRow.holds Try.pinned (OpenSpec.ofChange fnPictureSpec)

/-- ITS FALSE NEIGHBOUR: 'it returns false'. Refute it at one input. -/
def fnPictureWrong : ChangeSpec := { name := "fnPicture", fn := fun _ => fun
  | [d] => { results := [.lit (.bool false)], args := [d] }
  | _ => none }
def FnPictureWrongFalsely : Prop := fnPictureRow.holds Try.pinned (OpenSpec.ofChange fnPictureWrong)

/-- 'laws.FnExactStepNet': WHATEVER THE INPUT: true; the input reads as it did. -/
def fnExactStepNetSpec : ChangeSpec := { name := "fnExactStepNet", fn := fun _ => fun
  | [d1, d2] => { results := [.lit (.bool true)], args := [d1, d2] }
  | _ => none }
def fnExactStepNetRow : OpenClaim := { program := "ytmimoddajeeioaa", sum := "903329e1e8f031c15cbaae213e9e4dd1493e857567c142efcb13f349cfa51519", func := "loop.example/g00218/laws.FnExactStepNet", spec := "fnExactStepNet", unfollowed := true, recurses := true, apart := false }
def FnExactStepNetSaid : Prop := fnExactStepNetRow.holds Try.pinned (OpenSpec.ofChange fnExactStepNetSpec)

/-- ITS FALSE NEIGHBOUR: 'it returns false'. Refute it at one input. -/
def fnExactStepNetWrong : ChangeSpec := { name := "fnExactStepNet", fn := fun _ => fun
  | [d1, d2] => { results := [.lit (.bool false)], args := [d1, d2] }
  | _ => none }
def FnExactStepNetWrongFalsely : Prop := fnExactStepNetRow.holds Try.pinned (OpenSpec.ofChange fnExactStepNetWrong)

/-- 'laws.FnExactPlayNet': WHATEVER THE INPUT: true; the input reads as it did. -/
def fnExactPlayNetSpec : ChangeSpec := { name := "fnExactPlayNet", fn := fun _ => fun
  | [d1, d2] => { results := [.lit (.bool true)], args := [d1, d2] }
  | _ => none }
def fnExactPlayNetRow : OpenClaim := { program := "ytmimoddajeeioaa", sum := "903329e1e8f031c15cbaae213e9e4dd1493e857567c142efcb13f349cfa51519", func := "loop.example/g00218/laws.FnExactPlayNet", spec := "fnExactPlayNet", unfollowed := true, recurses := true, apart := false }
def FnExactPlayNetSaid : Prop := fnExactPlayNetRow.holds Try.pinned (OpenSpec.ofChange fnExactPlayNetSpec)

/-- ITS FALSE NEIGHBOUR: 'it returns false'. Refute it at one input. -/
def fnExactPlayNetWrong : ChangeSpec := { name := "fnExactPlayNet", fn := fun _ => fun
  | [d1, d2] => { results := [.lit (.bool false)], args := [d1, d2] }
  | _ => none }
def FnExactPlayNetWrongFalsely : Prop := fnExactPlayNetRow.holds Try.pinned (OpenSpec.ofChange fnExactPlayNetWrong)

/-- 'laws.FnExactFinishNet': WHATEVER THE INPUT: true; the input reads as it did. -/
def fnExactFinishNetSpec : ChangeSpec := { name := "fnExactFinishNet", fn := fun _ => fun
  | [d] => { results := [.lit (.bool true)], args := [d] }
  | _ => none }
def fnExactFinishNetRow : OpenClaim := { program := "ytmimoddajeeioaa", sum := "903329e1e8f031c15cbaae213e9e4dd1493e857567c142efcb13f349cfa51519", func := "loop.example/g00218/laws.FnExactFinishNet", spec := "fnExactFinishNet", unfollowed := true, recurses := true, apart := false }
def FnExactFinishNetSaid : Prop := fnExactFinishNetRow.holds Try.pinned (OpenSpec.ofChange fnExactFinishNetSpec)

/-- ITS FALSE NEIGHBOUR: 'it returns false'. Refute it at one input. -/
def fnExactFinishNetWrong : ChangeSpec := { name := "fnExactFinishNet", fn := fun _ => fun
  | [d] => { results := [.lit (.bool false)], args := [d] }
  | _ => none }
def FnExactFinishNetWrongFalsely : Prop := fnExactFinishNetRow.holds Try.pinned (OpenSpec.ofChange fnExactFinishNetWrong)

/- THE SECOND FORM. 'bulk': how many values and letters a reading holds, each counted each time it is reached (what is shared counts as often as it is met; a slice's spare places count too). A statement '..UptoSaid' is the law's where the arguments, and the package variables that the reading takes, are together of bulk at most 1048576: NARROWER than '..Said'. Prove '..Said' where nothing that the law and all that it calls make is longer than what came in: it says more and counts as full. Else prove '..UptoSaid'. A law counts once. -/
mutual
def uptoBulk {H : Type} : DataW H → Nat
  | .lit (.string bytes) => bytes.length + 1
  | .lit _ => 1
  | .nil => 1
  | .ptr d => uptoBulk d + 1
  | .slice elems spare => uptoBulkAll elems + uptoBulkAll spare + 1
  | .agg parts => uptoBulkAll parts + 1
  | .iface _ d => uptoBulk d + 1
  | .map entries => uptoBulkEntries entries + 1
  | .held _ => 1
def uptoBulkAll {H : Type} : List (DataW H) → Nat
  | [] => 0
  | d :: r => uptoBulk d + uptoBulkAll r
def uptoBulkEntries {H : Type} : List (Lit × DataW H) → Nat
  | [] => 0
  | x :: r => uptoBulkEntry x + uptoBulkEntries r
def uptoBulkEntry {H : Type} : Lit × DataW H → Nat
  | (.string bytes, d) => bytes.length + uptoBulk d + 1
  | (_, d) => uptoBulk d + 1
 end
def uptoSmall : (H : Type) → List (DataW H) → Bool := fun _ ds => decide (uptoBulkAll ds ≤ 1048576)
def OpenSpec.upto (s : _root_.Go.ChangeSpec) : _root_.Go.OpenSpec := { _root_.Go.OpenSpec.ofChange s with cond := some uptoSmall }

/-- 'laws.FnTold', WHERE WHAT IT READS IS OF BULK AT MOST 1048576: true; the input reads as it did. -/
def fnToldUptoRow : OpenClaim := { program := "ytmimoddajeeioaa", sum := "903329e1e8f031c15cbaae213e9e4dd1493e857567c142efcb13f349cfa51519", func := "loop.example/g00218/laws.FnTold", spec := "fnTold", unfollowed := true, recurses := true, apart := false, narrowed := true }
def FnToldUptoSaid : Prop := fnToldUptoRow.holds Try.pinned (OpenSpec.upto fnToldSpec)

/-- 'laws.FnKept', WHERE WHAT IT READS IS OF BULK AT MOST 1048576: true; the input reads as it did. -/
def fnKeptUptoRow : OpenClaim := { program := "ytmimoddajeeioaa", sum := "903329e1e8f031c15cbaae213e9e4dd1493e857567c142efcb13f349cfa51519", func := "loop.example/g00218/laws.FnKept", spec := "fnKept", unfollowed := true, recurses := true, apart := false, narrowed := true }
def FnKeptUptoSaid : Prop := fnKeptUptoRow.holds Try.pinned (OpenSpec.upto fnKeptSpec)

/-- 'laws.FnPicture', WHERE WHAT IT READS IS OF BULK AT MOST 1048576: true; the input reads as it did. -/
def fnPictureUptoRow : OpenClaim := { program := "ytmimoddajeeioaa", sum := "903329e1e8f031c15cbaae213e9e4dd1493e857567c142efcb13f349cfa51519", func := "loop.example/g00218/laws.FnPicture", spec := "fnPicture", unfollowed := true, recurses := true, apart := false, narrowed := true }
def FnPictureUptoSaid : Prop := fnPictureUptoRow.holds Try.pinned (OpenSpec.upto fnPictureSpec)

/-- 'laws.FnExactStepNet', WHERE WHAT IT READS IS OF BULK AT MOST 1048576: true; the input reads as it did. -/
def fnExactStepNetUptoRow : OpenClaim := { program := "ytmimoddajeeioaa", sum := "903329e1e8f031c15cbaae213e9e4dd1493e857567c142efcb13f349cfa51519", func := "loop.example/g00218/laws.FnExactStepNet", spec := "fnExactStepNet", unfollowed := true, recurses := true, apart := false, narrowed := true }
def FnExactStepNetUptoSaid : Prop := fnExactStepNetUptoRow.holds Try.pinned (OpenSpec.upto fnExactStepNetSpec)

/-- 'laws.FnExactPlayNet', WHERE WHAT IT READS IS OF BULK AT MOST 1048576: true; the input reads as it did. -/
def fnExactPlayNetUptoRow : OpenClaim := { program := "ytmimoddajeeioaa", sum := "903329e1e8f031c15cbaae213e9e4dd1493e857567c142efcb13f349cfa51519", func := "loop.example/g00218/laws.FnExactPlayNet", spec := "fnExactPlayNet", unfollowed := true, recurses := true, apart := false, narrowed := true }
def FnExactPlayNetUptoSaid : Prop := fnExactPlayNetUptoRow.holds Try.pinned (OpenSpec.upto fnExactPlayNetSpec)

/-- 'laws.FnExactFinishNet', WHERE WHAT IT READS IS OF BULK AT MOST 1048576: true; the input reads as it did. -/
def fnExactFinishNetUptoRow : OpenClaim := { program := "ytmimoddajeeioaa", sum := "903329e1e8f031c15cbaae213e9e4dd1493e857567c142efcb13f349cfa51519", func := "loop.example/g00218/laws.FnExactFinishNet", spec := "fnExactFinishNet", unfollowed := true, recurses := true, apart := false, narrowed := true }
def FnExactFinishNetUptoSaid : Prop := fnExactFinishNetUptoRow.holds Try.pinned (OpenSpec.upto fnExactFinishNetSpec)

end Rows
end Go.Proofs.Ytmimoddajeeioaa
