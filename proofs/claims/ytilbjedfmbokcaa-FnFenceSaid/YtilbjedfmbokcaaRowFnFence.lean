/- The row of the law FnFence: its call, told by its pure program, in the kit's form of a row. -/
import Derived.Test.YtilbjedfmbokcaaRows
import Derived.Test.YtilbjedfmbokcaaGpTop3
import Derived.Test.YtilbjedfmbokcaaGpLFnFence
import Derived.WalkKit
import Derived.ProofKit
import Derived.OpenShut
import Derived.ShutString
import Derived.ChangeOld
import Derived.Below
import Derived.SizedLaws
namespace Go.Proofs.Ytilbjedfmbokcaa.fnFence
open Go.ChangeShapes Go.WideShapes Go.ChangeAt Go.RowKit
set_option linter.unusedVariables false
theorem own : ownKnob Go.Proofs.Try.prog.godebug = none := by kernel_rfl
theorem laidOut : laidOutB Go.Proofs.Try.prog = true := by kernel_rfl
set_option maxRecDepth 100000 in
theorem lifted (os : Os) (started : os.Started) (H : Type) (enc : TypeId × Value → H) :
    ReturnsInHanded {} Go.Proofs.Try.checked os 3 .any (Rows.fnFenceSpec.pre6 enc Go.Proofs.Try.prog Go.Proofs.Try.f3 Rows.fnFenceRow.domain false) (Rows.fnFenceSpec.post enc Go.Proofs.Try.prog Go.Proofs.Try.f3 false true false false) := by
  refine returnsInHanded_of_change_sized (C := Go.Proofs.Try.checked) own started (by kernel_rfl) Go.Proofs.Try.func3
    (ChangeSpec.witness6 (enc := enc) (C := Go.Proofs.Try.checked) false ⟨#[], Gp.Ytilbjedfmbokcaa.zeroFnFence, []⟩ 8 (by kernel_rfl) (by kernel_rfl) (by kernel_rfl) (by kernel_rfl)) ?_
  intro W base args ds gs before hval0 hW hcnd hsz0 _
  have hval : ∀ (j : Nat) t v, Go.Proofs.Try.f3.params[j]? = some t → args[j]? = some v → Value.okWide Go.Proofs.Try.prog W .any base t v := hval0
  have hW' := hW
  obtain ⟨p, q, hA0, hV, rfl, hfz, hnd⟩ := hW
  have hA : DataW.TrodAll enc Go.Proofs.Try.prog W 0 (fun _ => true) true Go.Proofs.Try.f3.params.toList args.toList ds p := hA0
  rw [Go.Proofs.Try.params3] at hA hval
  obtain ⟨v0, vs0, d0, ds0, p0, q0, hargs, rfl, rfl, h0, r0⟩ := trodAll_cons hA
  obtain ⟨rfl, rfl, rfl⟩ := trodAll_nil r0
  obtain rfl : args = #[v0] := by cases args; simp_all
  obtain ⟨rfl, rfl⟩ := trodVars_none hV
  have k0 := h0
  have lt0 : ∀ x ∈ p0, x.block < W.heap.size := by obtain ⟨m, hm⟩ := k0; exact DataW.trod_lt m _ _ _ hm
  have hargs : ∀ (j : Nat) ti, (Gp.Ytilbjedfmbokcaa.tisFnFence)[j]? = some ti → ti.size = ti.cks.length ∧ ∃ u, (#[v0] : Array Value)[j]? = some u ∧ Gp.ArgIn Gp.Ytilbjedfmbokcaa.tab W ti u := by
    intro j ti hj
    match j, hj with
    | 0, hj => (cases hj; exact ⟨by kernel_rfl, v0, rfl, Gp.argIn_of Gp.Ytilbjedfmbokcaa.tabOk (fun _ => rfl) (m := 8) (by kernel_rfl) (by kernel_rfl) k0 (hval 0 _ v0 rfl rfl)⟩)
    | k + 1, hj => simp [Gp.Ytilbjedfmbokcaa.tisFnFence] at hj
  clear hA0 hval0 hsz0
  refine (Gp.law_calls (i := 38) (tis := Gp.Ytilbjedfmbokcaa.tisFnFence) Gp.Ytilbjedfmbokcaa.all rfl (by kernel_rfl) (by kernel_rfl) rfl rfl hargs Gp.Ytilbjedfmbokcaa.pureFnFence).mono fun e W' ⟨he, b1, b2, b3, b4, b5⟩ => ?_
  have bel : Below W.heap.size W W' := ⟨b1, b2, b3, b4, b5⟩
  subst he
  exact ⟨_, rfl, _, _, _, [], _, [], hW', trodAll_mk1 (shut_bool Go.Proofs.Try.underlying4 _), (trodAll_cons_mk (Below.trod laidOut (by kernel_rfl) (of_decide_eq_true (by kernel_rfl)) k0 bel lt0) trodAll_mk0), rfl, bel.frame _, fun h => by cases h⟩
theorem over : Rows.fnFenceRow.holds Try.pinned (OpenSpec.ofChange Rows.fnFenceSpec) :=
  OpenClaim.holds_of_wide 3 Go.Proofs.Try.f3 rfl rfl rfl rfl rfl rfl rfl ⟨rfl, rfl, rfl, rfl, rfl⟩ rfl rfl rfl rfl rfl (by kernel_rfl) Go.Proofs.Try.func3 (by kernel_rfl)
    (of_decide_eq_true (by kernel_rfl)) (by unfold Func.isWrapper; first | (rw [if_pos (by decide +kernel)]; kernel_rfl) | (rw [if_neg (by decide +kernel)]; exact ⟨rfl, rfl⟩))
    (fun os started H enc _ => lifted os started H enc)
theorem proved : Rows.FnFenceSaid := over
end Go.Proofs.Ytilbjedfmbokcaa.fnFence
namespace Go.Proofs.Ytilbjedfmbokcaa
/-- The row, under a short name, for the claim. -/
theorem fnFence_holds : Rows.FnFenceSaid := fnFence.proved
end Go.Proofs.Ytilbjedfmbokcaa

