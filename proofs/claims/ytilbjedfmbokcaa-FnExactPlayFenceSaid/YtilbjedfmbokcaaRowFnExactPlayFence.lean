/- The row of the law FnExactPlayFence: its call, told by its pure program, in the kit's form of a row. -/
import Derived.Test.YtilbjedfmbokcaaRows
import Derived.Test.YtilbjedfmbokcaaGpTop3
import Derived.Test.YtilbjedfmbokcaaGpLFnExactPlayFence
import Derived.WalkKit
import Derived.ProofKit
import Derived.OpenShut
import Derived.ShutString
import Derived.ChangeOld
import Derived.Below
import Derived.SizedLaws
namespace Go.Proofs.Ytilbjedfmbokcaa.fnExactPlayFence
open Go.ChangeShapes Go.WideShapes Go.ChangeAt Go.RowKit
set_option linter.unusedVariables false
theorem own : ownKnob Go.Proofs.Try.prog.godebug = none := by kernel_rfl
theorem laidOut : laidOutB Go.Proofs.Try.prog = true := by kernel_rfl
set_option maxRecDepth 100000 in
theorem lifted (os : Os) (started : os.Started) (H : Type) (enc : TypeId × Value → H) :
    ReturnsInHanded {} Go.Proofs.Try.checked os 4 .any (Rows.fnExactPlayFenceSpec.pre6 enc Go.Proofs.Try.prog Go.Proofs.Try.f4 Rows.fnExactPlayFenceRow.domain false) (Rows.fnExactPlayFenceSpec.post enc Go.Proofs.Try.prog Go.Proofs.Try.f4 false true false false) := by
  refine returnsInHanded_of_change_sized (C := Go.Proofs.Try.checked) own started (by kernel_rfl) Go.Proofs.Try.func4
    (ChangeSpec.witness6 (enc := enc) (C := Go.Proofs.Try.checked) false ⟨#[], Gp.Ytilbjedfmbokcaa.zeroFnExactPlayFence, []⟩ 8 (by kernel_rfl) (by kernel_rfl) (by kernel_rfl) (by kernel_rfl)) ?_
  intro W base args ds gs before hval0 hW hcnd hsz0 _
  have hval : ∀ (j : Nat) t v, Go.Proofs.Try.f4.params[j]? = some t → args[j]? = some v → Value.okWide Go.Proofs.Try.prog W .any base t v := hval0
  have hW' := hW
  obtain ⟨p, q, hA0, hV, rfl, hfz, hnd⟩ := hW
  have hA : DataW.TrodAll enc Go.Proofs.Try.prog W 0 (fun _ => true) true Go.Proofs.Try.f4.params.toList args.toList ds p := hA0
  rw [Go.Proofs.Try.params4] at hA hval
  obtain ⟨v0, vs0, d0, ds0, p0, q0, hargs, rfl, rfl, h0, r0⟩ := trodAll_cons hA
  obtain ⟨v1, vs1, d1, ds1, p1, q1, rfl, rfl, rfl, h1, r1⟩ := trodAll_cons r0
  obtain ⟨rfl, rfl, rfl⟩ := trodAll_nil r1
  obtain rfl : args = #[v0, v1] := by cases args; simp_all
  obtain ⟨rfl, rfl⟩ := trodVars_none hV
  have k0 := h0
  have lt0 : ∀ x ∈ p0, x.block < W.heap.size := by obtain ⟨m, hm⟩ := k0; exact DataW.trod_lt m _ _ _ hm
  have k1 := h1
  have lt1 : ∀ x ∈ p1, x.block < W.heap.size := by obtain ⟨m, hm⟩ := k1; exact DataW.trod_lt m _ _ _ hm
  have hargs : ∀ (j : Nat) ti, (Gp.Ytilbjedfmbokcaa.tisFnExactPlayFence)[j]? = some ti → ti.size = ti.cks.length ∧ ∃ u, (#[v0, v1] : Array Value)[j]? = some u ∧ Gp.ArgIn Gp.Ytilbjedfmbokcaa.tab W ti u := by
    intro j ti hj
    match j, hj with
    | 0, hj => (cases hj; exact ⟨by kernel_rfl, v0, rfl, Gp.argIn_of Gp.Ytilbjedfmbokcaa.tabOk (fun _ => rfl) (m := 8) (by kernel_rfl) (by kernel_rfl) k0 (hval 0 _ v0 rfl rfl)⟩)
    | 1, hj => (cases hj; exact ⟨by kernel_rfl, v1, rfl, Gp.argIn_of Gp.Ytilbjedfmbokcaa.tabOk (fun _ => rfl) (m := 8) (by kernel_rfl) (by kernel_rfl) k1 (hval 1 _ v1 rfl rfl)⟩)
    | k + 2, hj => simp [Gp.Ytilbjedfmbokcaa.tisFnExactPlayFence] at hj
  clear hA0 hval0 hsz0
  refine (Gp.law_calls (i := 44) (tis := Gp.Ytilbjedfmbokcaa.tisFnExactPlayFence) Gp.Ytilbjedfmbokcaa.all rfl (by kernel_rfl) (by kernel_rfl) rfl rfl hargs Gp.Ytilbjedfmbokcaa.pureFnExactPlayFence).mono fun e W' ⟨he, b1, b2, b3, b4, b5⟩ => ?_
  have bel : Below W.heap.size W W' := ⟨b1, b2, b3, b4, b5⟩
  subst he
  exact ⟨_, rfl, _, _, _, [], _, [], hW', trodAll_mk1 (shut_bool Go.Proofs.Try.underlying4 _), (trodAll_cons_mk (Below.trod laidOut (by kernel_rfl) (of_decide_eq_true (by kernel_rfl)) k0 bel lt0) (trodAll_cons_mk (Below.trod laidOut (by kernel_rfl) (of_decide_eq_true (by kernel_rfl)) k1 bel lt1) trodAll_mk0)), rfl, bel.frame _, fun h => by cases h⟩
theorem over : Rows.fnExactPlayFenceRow.holds Try.pinned (OpenSpec.ofChange Rows.fnExactPlayFenceSpec) :=
  OpenClaim.holds_of_wide 4 Go.Proofs.Try.f4 rfl rfl rfl rfl rfl rfl rfl ⟨rfl, rfl, rfl, rfl, rfl⟩ rfl rfl rfl rfl rfl (by kernel_rfl) Go.Proofs.Try.func4 (by kernel_rfl)
    (of_decide_eq_true (by kernel_rfl)) (by unfold Func.isWrapper; first | (rw [if_pos (by decide +kernel)]; kernel_rfl) | (rw [if_neg (by decide +kernel)]; exact ⟨rfl, rfl⟩))
    (fun os started H enc _ => lifted os started H enc)
theorem proved : Rows.FnExactPlayFenceSaid := over
end Go.Proofs.Ytilbjedfmbokcaa.fnExactPlayFence
namespace Go.Proofs.Ytilbjedfmbokcaa
/-- The row, under a short name, for the claim. -/
theorem fnExactPlayFence_holds : Rows.FnExactPlayFenceSaid := fnExactPlayFence.proved
end Go.Proofs.Ytilbjedfmbokcaa

