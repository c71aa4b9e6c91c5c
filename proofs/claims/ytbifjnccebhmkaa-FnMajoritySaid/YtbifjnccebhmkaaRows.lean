/-
  No cell of these rows narrows 'for every input' (looked for: loops, veiled, ifaces, maps, wideKeys, modest, calm, conditions, laid).
  DERIVED. THE GIVEN ROWS OF THIS SEAT. 5 by the template 'for every input the law returns true; each argument reads behind the call as it read before'; 0 by the template 'total and deterministic' (their statements: YtbifjnccebhmkaaTotals.lean).
  GIVEN WITH THE SEED: the statements are not yours to turn. If you find one false, say at which input.
  Laid BY PROGRAM, IN A SANDBOX (cutbox-rows.mjs): the forced cells as the released guide's own fill.sh prints them over the translation 70bde614d4373be2… (all of the seat's roots in one cut). By AI agents, Wed Nov 11 2026. No macro, syntax, notation, axiom, sorry.
-/
import Derived.Test.YtbifjnccebhmkaaChecked
import GoSem.Claim
import GoSem.ClaimJoined
import GoSem.ClaimMapViews
import Derived.JoinedTies
import Derived.KernelRfl
namespace Go.Proofs.Ytbifjnccebhmkaa
/- THE CELL 'sum', in the pinned program and in every row, IS THE sha256 OF THE DUMP (.gsa) THAT YtbifjnccebhmkaaProg.lean LOADS. Nothing in Lean hashes anything: it is a label: what it is worth is what the hold of that sum in a sandbox is worth. -/
noncomputable def Try.pinned : Pinned := { name := "ytbifjnccebhmkaa", sum := "70bde614d4373be2cccc825e3e5d29902569e1fe34a1b3815eb25308486a1422", checked := Try.checked }
namespace Rows
def none {H : Type} : Left H := { results := [], args := [] }

/-- 'laws.FnMajority': WHATEVER THE INPUT: true; the input reads as it did. -/
def fnMajoritySpec : ChangeSpec := { name := "fnMajority", fn := fun _ => fun
  | [d1, d2] => { results := [.lit (.bool true)], args := [d1, d2] }
  | _ => none }
def fnMajorityRow : OpenClaim := { program := "ytbifjnccebhmkaa", sum := "70bde614d4373be2cccc825e3e5d29902569e1fe34a1b3815eb25308486a1422", func := "loop.example/g00218/laws.FnMajority", spec := "fnMajority", unfollowed := true, recurses := true, apart := false }
def FnMajoritySaid : Prop := fnMajorityRow.holds Try.pinned (OpenSpec.ofChange fnMajoritySpec)

/-- ITS FALSE NEIGHBOUR: 'it returns false'. Refute it at one input. -/
def fnMajorityWrong : ChangeSpec := { name := "fnMajority", fn := fun _ => fun
  | [d1, d2] => { results := [.lit (.bool false)], args := [d1, d2] }
  | _ => none }
def FnMajorityWrongFalsely : Prop := fnMajorityRow.holds Try.pinned (OpenSpec.ofChange fnMajorityWrong)

/-- 'laws.FnExactLoadOf': WHATEVER THE INPUT: true; the input reads as it did. -/
def fnExactLoadOfSpec : ChangeSpec := { name := "fnExactLoadOf", fn := fun _ => fun
  | [d] => { results := [.lit (.bool true)], args := [d] }
  | _ => none }
def fnExactLoadOfRow : OpenClaim := { program := "ytbifjnccebhmkaa", sum := "70bde614d4373be2cccc825e3e5d29902569e1fe34a1b3815eb25308486a1422", func := "loop.example/g00218/laws.FnExactLoadOf", spec := "fnExactLoadOf", unfollowed := true, recurses := true, apart := false }
def FnExactLoadOfSaid : Prop := fnExactLoadOfRow.holds Try.pinned (OpenSpec.ofChange fnExactLoadOfSpec)

/-- ITS FALSE NEIGHBOUR: 'it returns false'. Refute it at one input. -/
def fnExactLoadOfWrong : ChangeSpec := { name := "fnExactLoadOf", fn := fun _ => fun
  | [d] => { results := [.lit (.bool false)], args := [d] }
  | _ => none }
def FnExactLoadOfWrongFalsely : Prop := fnExactLoadOfRow.holds Try.pinned (OpenSpec.ofChange fnExactLoadOfWrong)

/-- 'laws.FnLease': WHATEVER THE INPUT: true; the input reads as it did. -/
def fnLeaseSpec : ChangeSpec := { name := "fnLease", fn := fun _ => fun
  | [d1, d2] => { results := [.lit (.bool true)], args := [d1, d2] }
  | _ => none }
def fnLeaseRow : OpenClaim := { program := "ytbifjnccebhmkaa", sum := "70bde614d4373be2cccc825e3e5d29902569e1fe34a1b3815eb25308486a1422", func := "loop.example/g00218/laws.FnLease", spec := "fnLease", apart := false }
def FnLeaseSaid : Prop := fnLeaseRow.holds Try.pinned (OpenSpec.ofChange fnLeaseSpec)

/-- ITS FALSE NEIGHBOUR: 'it returns false'. Refute it at one input. -/
def fnLeaseWrong : ChangeSpec := { name := "fnLease", fn := fun _ => fun
  | [d1, d2] => { results := [.lit (.bool false)], args := [d1, d2] }
  | _ => none }
def FnLeaseWrongFalsely : Prop := fnLeaseRow.holds Try.pinned (OpenSpec.ofChange fnLeaseWrong)

/-- 'laws.FnExactPlayLeases': WHATEVER THE INPUT: true; the input reads as it did. -/
def fnExactPlayLeasesSpec : ChangeSpec := { name := "fnExactPlayLeases", fn := fun _ => fun
  | [d1, d2, d3] => { results := [.lit (.bool true)], args := [d1, d2, d3] }
  | _ => none }
def fnExactPlayLeasesRow : OpenClaim := { program := "ytbifjnccebhmkaa", sum := "70bde614d4373be2cccc825e3e5d29902569e1fe34a1b3815eb25308486a1422", func := "loop.example/g00218/laws.FnExactPlayLeases", spec := "fnExactPlayLeases", apart := false }
def FnExactPlayLeasesSaid : Prop := fnExactPlayLeasesRow.holds Try.pinned (OpenSpec.ofChange fnExactPlayLeasesSpec)

/-- ITS FALSE NEIGHBOUR: 'it returns false'. Refute it at one input. -/
def fnExactPlayLeasesWrong : ChangeSpec := { name := "fnExactPlayLeases", fn := fun _ => fun
  | [d1, d2, d3] => { results := [.lit (.bool false)], args := [d1, d2, d3] }
  | _ => none }
def FnExactPlayLeasesWrongFalsely : Prop := fnExactPlayLeasesRow.holds Try.pinned (OpenSpec.ofChange fnExactPlayLeasesWrong)

/-- 'laws.FnVector': WHATEVER THE INPUT: true; the input reads as it did. -/
def fnVectorSpec : ChangeSpec := { name := "fnVector", fn := fun _ => fun
  | [d1, d2] => { results := [.lit (.bool true)], args := [d1, d2] }
  | _ => none }
def fnVectorRow : OpenClaim := { program := "ytbifjnccebhmkaa", sum := "70bde614d4373be2cccc825e3e5d29902569e1fe34a1b3815eb25308486a1422", func := "loop.example/g00218/laws.FnVector", spec := "fnVector", unfollowed := true, recurses := true, apart := false }
def FnVectorSaid : Prop := fnVectorRow.holds Try.pinned (OpenSpec.ofChange fnVectorSpec)

/-- ITS FALSE NEIGHBOUR: 'it returns false'. Refute it at one input. -/
def fnVectorWrong : ChangeSpec := { name := "fnVector", fn := fun _ => fun
  | [d1, d2] => { results := [.lit (.bool false)], args := [d1, d2] }
  | _ => none }
def FnVectorWrongFalsely : Prop := fnVectorRow.holds Try.pinned (OpenSpec.ofChange fnVectorWrong)

/- THE SECOND FORM. 'bulk': how many values and letters a reading holds, each counted each time it is reached (what is shared counts as often as it is met; a slice's spare places count too). A statement '..UptoSaid' is the law's where the arguments, and the package variables that the reading takes, are together of bulk at most 1048576: NARROWER than '..Said'. Prove '..Said' where nothing that the law and all that it calls make is longer than what came in: it says more and counts as full. Else prove '..UptoSaid'. A law counts once. -/
mutual
def uptoBulk {H : Type} : DataW H → Nat
  | .lit (.string bytes) => bytes.length + 1
  | .lit _ => 1
  | .nil => 1
  | .ptr d => uptoBulk d + 1
  | .slice elems spare => uptoBulkAll elems + uptoBulkAll spare + 1
  | .agg parts => uptoBulkAll parts + 1
  | .iface _ d => uptoBulk d + 1
  | .map entries => uptoBulkEntries entries + 1
  | .held _ => 1
def uptoBulkAll {H : Type} : List (DataW H) → Nat
  | [] => 0
  | d :: r => uptoBulk d + uptoBulkAll r
def uptoBulkEntries {H : Type} : List (Lit × DataW H) → Nat
  | [] => 0
  | x :: r => uptoBulkEntry x + uptoBulkEntries r
def uptoBulkEntry {H : Type} : Lit × DataW H → Nat
  | (.string bytes, d) => bytes.length + uptoBulk d + 1
  | (_, d) => uptoBulk d + 1
 end
def uptoSmall : (H : Type) → List (DataW H) → Bool := fun _ ds => decide (uptoBulkAll ds ≤ 1048576)
def OpenSpec.upto (s : _root_.Go.ChangeSpec) : _root_.Go.OpenSpec := { _root_.Go.OpenSpec.ofChange s with cond := some uptoSmall }

/-- 'laws.FnMajority', WHERE WHAT IT READS IS OF BULK AT MOST 1048576: true; the input reads as it did. -/
def fnMajorityUptoRow : OpenClaim := { program := "ytbifjnccebhmkaa", sum := "70bde614d4373be2cccc825e3e5d29902569e1fe34a1b3815eb25308486a1422", func := "loop.example/g00218/laws.FnMajority", spec := "fnMajority", unfollowed := true, recurses := true, apart := false, narrowed := true }
def FnMajorityUptoSaid : Prop := fnMajorityUptoRow.holds Try.pinned (OpenSpec.upto fnMajoritySpec)

/-- 'laws.FnExactLoadOf', WHERE WHAT IT READS IS OF BULK AT MOST 1048576: true; the input reads as it did. -/
def fnExactLoadOfUptoRow : OpenClaim := { program := "ytbifjnccebhmkaa", sum := "70bde614d4373be2cccc825e3e5d29902569e1fe34a1b3815eb25308486a1422", func := "loop.example/g00218/laws.FnExactLoadOf", spec := "fnExactLoadOf", unfollowed := true, recurses := true, apart := false, narrowed := true }
def FnExactLoadOfUptoSaid : Prop := fnExactLoadOfUptoRow.holds Try.pinned (OpenSpec.upto fnExactLoadOfSpec)

/-- 'laws.FnLease', WHERE WHAT IT READS IS OF BULK AT MOST 1048576: true; the input reads as it did. -/
def fnLeaseUptoRow : OpenClaim := { program := "ytbifjnccebhmkaa", sum := "70bde614d4373be2cccc825e3e5d29902569e1fe34a1b3815eb25308486a1422", func := "loop.example/g00218/laws.FnLease", spec := "fnLease", apart := false, narrowed := true }
def FnLeaseUptoSaid : Prop := fnLeaseUptoRow.holds Try.pinned (OpenSpec.upto fnLeaseSpec)

/-- 'laws.FnExactPlayLeases', WHERE WHAT IT READS IS OF BULK AT MOST 1048576: true; the input reads as it did. -/
def fnExactPlayLeasesUptoRow : OpenClaim := { program := "ytbifjnccebhmkaa", sum := "70bde614d4373be2cccc825e3e5d29902569e1fe34a1b3815eb25308486a1422", func := "loop.example/g00218/laws.FnExactPlayLeases", spec := "fnExactPlayLeases", apart := false, narrowed := true }
def FnExactPlayLeasesUptoSaid : Prop := fnExactPlayLeasesUptoRow.holds Try.pinned (OpenSpec.upto fnExactPlayLeasesSpec)

/-- 'laws.FnVector', WHERE WHAT IT READS IS OF BULK AT MOST 1048576: true; the input reads as it did. -/
def fnVectorUptoRow : OpenClaim := { program := "ytbifjnccebhmkaa", sum := "70bde614d4373be2cccc825e3e5d29902569e1fe34a1b3815eb25308486a1422", func := "loop.example/g00218/laws.FnVector", spec := "fnVector", unfollowed := true, recurses := true, apart := false, narrowed := true }
def FnVectorUptoSaid : Prop := fnVectorUptoRow.holds Try.pinned (OpenSpec.upto fnVectorSpec)

end Rows
end Go.Proofs.Ytbifjnccebhmkaa
