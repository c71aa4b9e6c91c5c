/- The row of the law FnExactPlayConfig: its call, told by its pure program, in the kit's form of a row. -/
import Derived.Test.YteclmpnfdbgigaaRows
import Derived.Test.YteclmpnfdbgigaaGpTop3
import Derived.Test.YteclmpnfdbgigaaGpLFnExactPlayConfig
import Derived.WalkKit
import Derived.ProofKit
import Derived.OpenShut
import Derived.ShutString
import Derived.ChangeOld
import Derived.Below
import Derived.SizedLaws
namespace Go.Proofs.Yteclmpnfdbgigaa.fnExactPlayConfig
open Go.ChangeShapes Go.WideShapes Go.ChangeAt Go.RowKit
set_option linter.unusedVariables false
theorem own : ownKnob Go.Proofs.Try.prog.godebug = none := by kernel_rfl
theorem laidOut : laidOutB Go.Proofs.Try.prog = true := by kernel_rfl
set_option maxRecDepth 100000 in
theorem lifted (os : Os) (started : os.Started) (H : Type) (enc : TypeId × Value → H) :
    ReturnsInHanded {} Go.Proofs.Try.checked os 5 .any (Rows.fnExactPlayConfigSpec.pre6 enc Go.Proofs.Try.prog Go.Proofs.Try.f5 Rows.fnExactPlayConfigRow.domain false) (Rows.fnExactPlayConfigSpec.post enc Go.Proofs.Try.prog Go.Proofs.Try.f5 false true false false) := by
  refine returnsInHanded_of_change_sized (C := Go.Proofs.Try.checked) own started (by kernel_rfl) Go.Proofs.Try.func5
    (ChangeSpec.witness6 (enc := enc) (C := Go.Proofs.Try.checked) false ⟨#[], Gp.Yteclmpnfdbgigaa.zeroFnExactPlayConfig, []⟩ 8 (by kernel_rfl) (by kernel_rfl) (by kernel_rfl) (by kernel_rfl)) ?_
  intro W base args ds gs before hval0 hW hcnd hsz0 _
  have hval : ∀ (j : Nat) t v, Go.Proofs.Try.f5.params[j]? = some t → args[j]? = some v → Value.okWide Go.Proofs.Try.prog W .any base t v := hval0
  have hW' := hW
  obtain ⟨p, q, hA0, hV, rfl, hfz, hnd⟩ := hW
  have hA : DataW.TrodAll enc Go.Proofs.Try.prog W 0 (fun _ => true) true Go.Proofs.Try.f5.params.toList args.toList ds p := hA0
  rw [Go.Proofs.Try.params5] at hA hval
  obtain ⟨v0, vs0, d0, ds0, p0, q0, hargs, rfl, rfl, h0, r0⟩ := trodAll_cons hA
  obtain ⟨v1, vs1, d1, ds1, p1, q1, rfl, rfl, rfl, h1, r1⟩ := trodAll_cons r0
  obtain ⟨v2, vs2, d2, ds2, p2, q2, rfl, rfl, rfl, h2, r2⟩ := trodAll_cons r1
  obtain ⟨v3, vs3, d3, ds3, p3, q3, rfl, rfl, rfl, h3, r3⟩ := trodAll_cons r2
  obtain ⟨rfl, rfl, rfl⟩ := trodAll_nil r3
  obtain rfl : args = #[v0, v1, v2, v3] := by cases args; simp_all
  obtain ⟨rfl, rfl⟩ := trodVars_none hV
  have k0 := h0
  have lt0 : ∀ x ∈ p0, x.block < W.heap.size := by obtain ⟨m, hm⟩ := k0; exact DataW.trod_lt m _ _ _ hm
  have k1 := h1
  have lt1 : ∀ x ∈ p1, x.block < W.heap.size := by obtain ⟨m, hm⟩ := k1; exact DataW.trod_lt m _ _ _ hm
  have k2 := h2
  have lt2 : ∀ x ∈ p2, x.block < W.heap.size := by obtain ⟨m, hm⟩ := k2; exact DataW.trod_lt m _ _ _ hm
  have k3 := h3
  have lt3 : ∀ x ∈ p3, x.block < W.heap.size := by obtain ⟨m, hm⟩ := k3; exact DataW.trod_lt m _ _ _ hm
  have hargs : ∀ (j : Nat) ti, (Gp.Yteclmpnfdbgigaa.tisFnExactPlayConfig)[j]? = some ti → ti.size = ti.cks.length ∧ ∃ u, (#[v0, v1, v2, v3] : Array Value)[j]? = some u ∧ Gp.ArgIn Gp.Yteclmpnfdbgigaa.tab W ti u := by
    intro j ti hj
    match j, hj with
    | 0, hj => (cases hj; exact ⟨by kernel_rfl, v0, rfl, Gp.argIn_of Gp.Yteclmpnfdbgigaa.tabOk (fun _ => rfl) (m := 8) (by kernel_rfl) (by kernel_rfl) k0 (hval 0 _ v0 rfl rfl)⟩)
    | 1, hj => (cases hj; exact ⟨by kernel_rfl, v1, rfl, Gp.argIn_of Gp.Yteclmpnfdbgigaa.tabOk (fun _ => rfl) (m := 8) (by kernel_rfl) (by kernel_rfl) k1 (hval 1 _ v1 rfl rfl)⟩)
    | 2, hj => (cases hj; exact ⟨by kernel_rfl, v2, rfl, Gp.argIn_of Gp.Yteclmpnfdbgigaa.tabOk (fun _ => rfl) (m := 8) (by kernel_rfl) (by kernel_rfl) k2 (hval 2 _ v2 rfl rfl)⟩)
    | 3, hj => (cases hj; exact ⟨by kernel_rfl, v3, rfl, Gp.argIn_of Gp.Yteclmpnfdbgigaa.tabOk (fun _ => rfl) (m := 8) (by kernel_rfl) (by kernel_rfl) k3 (hval 3 _ v3 rfl rfl)⟩)
    | k + 4, hj => simp [Gp.Yteclmpnfdbgigaa.tisFnExactPlayConfig] at hj
  clear hA0 hval0 hsz0
  refine (Gp.law_calls (i := 55) (tis := Gp.Yteclmpnfdbgigaa.tisFnExactPlayConfig) Gp.Yteclmpnfdbgigaa.all rfl (by kernel_rfl) (by kernel_rfl) rfl rfl hargs Gp.Yteclmpnfdbgigaa.pureFnExactPlayConfig).mono fun e W' ⟨he, b1, b2, b3, b4, b5⟩ => ?_
  have bel : Below W.heap.size W W' := ⟨b1, b2, b3, b4, b5⟩
  subst he
  exact ⟨_, rfl, _, _, _, [], _, [], hW', trodAll_mk1 (shut_bool Go.Proofs.Try.underlying4 _), (trodAll_cons_mk (Below.trod laidOut (by kernel_rfl) (of_decide_eq_true (by kernel_rfl)) k0 bel lt0) (trodAll_cons_mk (Below.trod laidOut (by kernel_rfl) (of_decide_eq_true (by kernel_rfl)) k1 bel lt1) (trodAll_cons_mk (Below.trod laidOut (by kernel_rfl) (of_decide_eq_true (by kernel_rfl)) k2 bel lt2) (trodAll_cons_mk (Below.trod laidOut (by kernel_rfl) (of_decide_eq_true (by kernel_rfl)) k3 bel lt3) trodAll_mk0)))), rfl, bel.frame _, fun h => by cases h⟩
theorem over : Rows.fnExactPlayConfigRow.holds Try.pinned (OpenSpec.ofChange Rows.fnExactPlayConfigSpec) :=
  OpenClaim.holds_of_wide 5 Go.Proofs.Try.f5 rfl rfl rfl rfl rfl rfl rfl ⟨rfl, rfl, rfl, rfl, rfl⟩ rfl rfl rfl rfl rfl (by kernel_rfl) Go.Proofs.Try.func5 (by kernel_rfl)
    (of_decide_eq_true (by kernel_rfl)) (by unfold Func.isWrapper; first | (rw [if_pos (by decide +kernel)]; kernel_rfl) | (rw [if_neg (by decide +kernel)]; exact ⟨rfl, rfl⟩))
    (fun os started H enc _ => lifted os started H enc)
theorem proved : Rows.FnExactPlayConfigSaid := over
end Go.Proofs.Yteclmpnfdbgigaa.fnExactPlayConfig
namespace Go.Proofs.Yteclmpnfdbgigaa
/-- The row, under a short name, for the claim. -/
theorem fnExactPlayConfig_holds : Rows.FnExactPlayConfigSaid := fnExactPlayConfig.proved
end Go.Proofs.Yteclmpnfdbgigaa

