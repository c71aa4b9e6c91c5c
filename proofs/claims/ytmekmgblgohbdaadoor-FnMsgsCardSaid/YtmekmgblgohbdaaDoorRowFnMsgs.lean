/- The row of the law FnMsgs: its call, told by its pure program, in the kit's form of a row; and the card that ties what the row lists. -/
import Derived.Test.YtmekmgblgohbdaaDoorRows
import Derived.Test.YtmekmgblgohbdaaDoorCards
import Derived.Test.YtmekmgblgohbdaaDoorTie
import Derived.Test.YtmekmgblgohbdaaDoorGpTop3
import Derived.Test.YtmekmgblgohbdaaDoorGpLFnMsgs
import Derived.WalkKit
import Derived.ProofKit
import Derived.OpenShut
import Derived.ShutString
import Derived.ChangeOld
import Derived.Below
import Derived.SizedLaws
import Derived.LaidMore
import Derived.Lay
import Derived.SevenTiedAt
import Derived.Stop.Joined
namespace Go.Proofs.YtmekmgblgohbdaaDoor.fnMsgs
open Go.ChangeShapes Go.WideShapes Go.ChangeAt Go.RowKit
set_option linter.unusedVariables false
theorem own : ownKnob Go.Proofs.Tryd.prog.godebug = none := by kernel_rfl
theorem laidOut : laidOutB Go.Proofs.Tryd.prog = true := by kernel_rfl
set_option maxRecDepth 100000 in
theorem lifted (os : Os) (started : os.Started) (H : Type) (enc : TypeId × Value → H) :
    ReturnsInHanded {} Go.Proofs.Tryd.checked os 4 .any (fun w args => (Rows.fnMsgsSpec.pre enc Go.Proofs.Tryd.prog Go.Proofs.Tryd.f4 Rows.fnMsgsRow.domain false w args ∧ laidMetH Go.Proofs.Tryd.prog Rows.fnMsgsRow.laid w) ∧ sizedMet enc Go.Proofs.Tryd.prog Go.Proofs.Tryd.f4 (OpenSpec.ofChange Rows.fnMsgsSpec) false w args) (Rows.fnMsgsSpec.post enc Go.Proofs.Tryd.prog Go.Proofs.Tryd.f4 false true false false) := by
  refine returnsInHanded_of_change_and (C := Go.Proofs.Tryd.checked) (X := fun w _ => laidMetH Go.Proofs.Tryd.prog Rows.fnMsgsRow.laid w) (fun _ _ _ hh h => h.of_heap hh) own started (by kernel_rfl) Go.Proofs.Tryd.func4
    (ChangeSpec.witness_shaped (enc := enc) (C := Go.Proofs.Tryd.checked) (os := os) (X := fun w _ => laidMetH Go.Proofs.Tryd.prog Rows.fnMsgsRow.laid w) false (World.laidAll Go.Proofs.Tryd.prog os Rows.fnMsgsRow.laid) Gp.YtmekmgblgohbdaaDoor.zeroFnMsgs 8 (World.laidAll_os _ _ _)
      (World.shaped_of_ZipB (by kernel_rfl) (by kernel_rfl)) (by kernel_rfl) (by kernel_rfl) (by kernel_rfl)
      (by rw [MakeChecks.laidMetH_plain _ _ _ (by kernel_rfl)]; exact laidMet_laidAll _ (by kernel_rfl) (by kernel_rfl))) ?_
  intro W base args ds gs before hval0 hW hcnd hsz0 hL _
  have hval : ∀ (j : Nat) t v, Go.Proofs.Tryd.f4.params[j]? = some t → args[j]? = some v → Value.okWide Go.Proofs.Tryd.prog W .any base t v := hval0
  have hW' := hW
  obtain ⟨p, q, hA0, hV, rfl, hfz, hnd⟩ := hW
  have hA : DataW.TrodAll enc Go.Proofs.Tryd.prog W 0 (fun _ => true) true Go.Proofs.Tryd.f4.params.toList args.toList ds p := hA0
  rw [Go.Proofs.Tryd.params4] at hA hval
  obtain ⟨v0, vs0, d0, ds0, p0, q0, hargs, rfl, rfl, h0, r0⟩ := trodAll_cons hA
  obtain ⟨v1, vs1, d1, ds1, p1, q1, rfl, rfl, rfl, h1, r1⟩ := trodAll_cons r0
  obtain ⟨rfl, rfl, rfl⟩ := trodAll_nil r1
  obtain rfl : args = #[v0, v1] := by cases args; simp_all
  obtain ⟨rfl, rfl⟩ := trodVars_none hV
  have k0 := h0
  have lt0 : ∀ x ∈ p0, x.block < W.heap.size := by obtain ⟨m, hm⟩ := k0; exact DataW.trod_lt m _ _ _ hm
  have k1 := h1
  have lt1 : ∀ x ∈ p1, x.block < W.heap.size := by obtain ⟨m, hm⟩ := k1; exact DataW.trod_lt m _ _ _ hm
  have hargs : ∀ (j : Nat) ti, (Gp.YtmekmgblgohbdaaDoor.tisFnMsgs)[j]? = some ti → ti.size = ti.cks.length ∧ ∃ u, (#[v0, v1] : Array Value)[j]? = some u ∧ Gp.ArgIn Gp.YtmekmgblgohbdaaDoor.tab W ti u := by
    intro j ti hj
    match j, hj with
    | 0, hj => (cases hj; exact ⟨by kernel_rfl, v0, rfl, Gp.argIn_of Gp.YtmekmgblgohbdaaDoor.tabOk (fun _ => rfl) (m := 8) (by kernel_rfl) (by kernel_rfl) k0 (hval 0 _ v0 rfl rfl)⟩)
    | 1, hj => (cases hj; exact ⟨by kernel_rfl, v1, rfl, Gp.argIn_of Gp.YtmekmgblgohbdaaDoor.tabOk (fun _ => rfl) (m := 8) (by kernel_rfl) (by kernel_rfl) k1 (hval 1 _ v1 rfl rfl)⟩)
    | k + 2, hj => simp [Gp.YtmekmgblgohbdaaDoor.tisFnMsgs] at hj
  clear hA0 hval0 hsz0 hL
  refine (Gp.law_calls (i := 42) (tis := Gp.YtmekmgblgohbdaaDoor.tisFnMsgs) Gp.YtmekmgblgohbdaaDoor.all rfl (by kernel_rfl) (by kernel_rfl) rfl rfl hargs Gp.YtmekmgblgohbdaaDoor.pureFnMsgs).mono fun e W' ⟨he, b1, b2, b3, b4, b5⟩ => ?_
  have bel : Below W.heap.size W W' := ⟨b1, b2, b3, b4, b5⟩
  subst he
  exact ⟨_, rfl, _, _, _, [], _, [], hW', trodAll_mk1 (shut_bool Go.Proofs.Tryd.underlying4 _), (trodAll_cons_mk (Below.trod laidOut (by kernel_rfl) (of_decide_eq_true (by kernel_rfl)) k0 bel lt0) (trodAll_cons_mk (Below.trod laidOut (by kernel_rfl) (of_decide_eq_true (by kernel_rfl)) k1 bel lt1) trodAll_mk0)), rfl, bel.frame _, fun h => by cases h⟩
theorem over : Rows.fnMsgsRow.holds Tryd.pinned (OpenSpec.ofChange Rows.fnMsgsSpec) :=
  OpenClaim.holds_of_wide 4 Go.Proofs.Tryd.f4 rfl rfl rfl rfl rfl rfl rfl ⟨rfl, rfl, rfl, rfl, rfl⟩ rfl rfl rfl rfl rfl (by kernel_rfl) Go.Proofs.Tryd.func4 (by kernel_rfl)
    (of_decide_eq_true (by kernel_rfl)) (by unfold Func.isWrapper; first | (rw [if_pos (by decide +kernel)]; kernel_rfl) | (rw [if_neg (by decide +kernel)]; exact ⟨rfl, rfl⟩))
    (fun os started H enc _ => lifted os started H enc)
theorem card : Rows.FnMsgsCardSaid :=
  Claim7.holds_tied_plain_at .later [] [.data, .pinned] true (true, "e624e1ec0ac9e185dbf860bd53a149dedc16b2c07749414d4884608a876bb838") false over (fun _ h => by cases h) (by kernel_rfl) (fun _ h => by cases h) fnMsgs_row_tie rfl ⟨rfl, rfl⟩ (by kernel_rfl) rfl
    (fun f fn hf hfn => by
      obtain rfl : f = 4 := Option.some.inj ((show Go.Proofs.Tryd.prog.funcNamed Rows.fnMsgsRow.func = some 4 by kernel_rfl).symm.trans hf) |>.symm
      obtain rfl : fn = Go.Proofs.Tryd.f4 := (Option.some.inj (Go.Proofs.Tryd.func4.symm.trans hfn)).symm
      exact ⟨by kernel_rfl, fun j t ht => by
        have hall : (Go.Proofs.Tryd.f4.params.toList.all fun u => !Go.Proofs.Tryd.prog.wantsStandIn u) = true := by kernel_rfl
        have := List.all_eq_true.1 hall t (Array.mem_toList_iff.2 (Array.mem_of_getElem? ht))
        have h2 : Go.Proofs.Tryd.prog.wantsStandIn t = false := by simpa using this
        exact h2⟩)
    (by kernel_rfl)
end Go.Proofs.YtmekmgblgohbdaaDoor.fnMsgs
namespace Go.Proofs.YtmekmgblgohbdaaDoor
/-- The card, under a short name, for the claim. -/
theorem fnMsgs_holds : Rows.FnMsgsCardSaid := fnMsgs.card
end Go.Proofs.YtmekmgblgohbdaaDoor

