/- The row of the law FnTidOrder: its call, told by its pure program, in the kit's form of a row; and the card that ties what the row lists. -/
import Derived.Test.YtddabbooahooeaaGreatDoorRows
import Derived.Test.YtddabbooahooeaaGreatDoorCards
import Derived.Test.YtddabbooahooeaaGreatDoorTie
import Derived.Test.YtddabbooahooeaaGreatDoorGpTop3
import Derived.Test.YtddabbooahooeaaGreatDoorGpLFnTidOrder
import Derived.WalkKit
import Derived.ProofKit
import Derived.OpenShut
import Derived.ShutString
import Derived.ChangeOld
import Derived.Below
import Derived.SizedLaws
import Derived.LaidMore
import Derived.Lay
import Derived.SevenTiedAt
import Derived.Stop.Joined
set_option linter.unusedVariables false
set_option linter.unusedSimpArgs false
namespace Go.Proofs.YtddabbooahooeaaGreatDoor.fnTidOrder
open Go.ChangeShapes Go.WideShapes Go.ChangeAt Go.RowKit
theorem own:ownKnob Go.Proofs.Tryz.prog.godebug=none:=by kernel_rfl
theorem ziN:laidOutB Go.Proofs.Tryz.prog=true:=by kernel_rfl
set_option maxRecDepth 100000 in
theorem zk2 (os:Os) (started:os.Started) (H:Type) (enc:TypeId × Value->H) :
    ReturnsInHanded {} Go.Proofs.Tryz.checked os 5 .any (fun w args=>(Rows.fnTidOrderSpec.pre enc Go.Proofs.Tryz.prog Go.Proofs.Tryz.f5 Rows.fnTidOrderRow.domain false w args/\laidMetH Go.Proofs.Tryz.prog Rows.fnTidOrderRow.laid w)/\sizedMet enc Go.Proofs.Tryz.prog Go.Proofs.Tryz.f5 (OpenSpec.ofChange Rows.fnTidOrderSpec) false w args) (Rows.fnTidOrderSpec.post enc Go.Proofs.Tryz.prog Go.Proofs.Tryz.f5 false true false false):=by
  refine returnsInHanded_of_change_and (C:=Go.Proofs.Tryz.checked) (X:=fun w _=>laidMetH Go.Proofs.Tryz.prog Rows.fnTidOrderRow.laid w) (fun _ _ _ hh h=>h.of_heap hh) own started (by kernel_rfl) Go.Proofs.Tryz.func5
    (ChangeSpec.witness_shaped (enc:=enc) (C:=Go.Proofs.Tryz.checked) (os:=os) (X:=fun w _=>laidMetH Go.Proofs.Tryz.prog Rows.fnTidOrderRow.laid w) false (World.laidAll Go.Proofs.Tryz.prog os Rows.fnTidOrderRow.laid) Gp.YtddabbooahooeaaGreatDoor.zeroFnTidOrder 8 (World.laidAll_os _ _ _)
      (World.shaped_of_ZipB (by kernel_rfl) (by kernel_rfl)) (by kernel_rfl) (by kernel_rfl) (by kernel_rfl)
      (by rw [MakeChecks.laidMetH_plain _ _ _ (by kernel_rfl)]; exact laidMet_laidAll _ (by kernel_rfl) (by kernel_rfl))) ?_
  intro W base args ds gs before hval0 hW hcnd hsz0 hL _
  have hval:∀ (j:Nat) t v,Go.Proofs.Tryz.f5.params[j]? = some t->args[j]? = some v->Value.okWide Go.Proofs.Tryz.prog W .any base t v:=hval0
  have hW':=hW
  obtain ⟨p,q,hA0,hV,rfl,hfz,hnd⟩:=hW
  have hA:DataW.TrodAll enc Go.Proofs.Tryz.prog W 0 (fun _=>true) true Go.Proofs.Tryz.f5.params.toList args.toList ds p:=hA0
  rw [Go.Proofs.Tryz.params5] at hA hval
  obtain ⟨v0,vs0,d0,ds0,p0,q0,hargs,rfl,rfl,h0,r0⟩:=trodAll_cons hA
  obtain ⟨v1,vs1,d1,ds1,p1,q1,rfl,rfl,rfl,h1,r1⟩:=trodAll_cons r0
  obtain ⟨rfl,rfl,rfl⟩:=trodAll_nil r1
  obtain rfl:args = #[v0,v1]:=by cases args; simp_all
  obtain ⟨rfl,rfl⟩:=trodVars_none hV
  have k0:=h0
  have lt0:∀ x ∈ p0,x.block < W.heap.size:=by obtain ⟨m,hm⟩:=k0; exact DataW.trod_lt m _ _ _ hm
  have k1:=h1
  have lt1:∀ x ∈ p1,x.block < W.heap.size:=by obtain ⟨m,hm⟩:=k1; exact DataW.trod_lt m _ _ _ hm
  have hargs:∀ (j:Nat) ti,(Gp.YtddabbooahooeaaGreatDoor.tisFnTidOrder)[j]? = some ti->ti.size=ti.cks.length/\∃ u,(#[v0,v1]:Array Value)[j]? = some u/\Gp.ArgIn Gp.YtddabbooahooeaaGreatDoor.tab W ti u:=by
    intro j ti hj
    match j,hj with
    | 0,hj=>(cases hj; exact ⟨by kernel_rfl,v0,rfl,Gp.zhS Gp.YtddabbooahooeaaGreatDoor.tabOk (fun _=>rfl) (m:=8) (by kernel_rfl) (by kernel_rfl) k0 (hval 0 _ v0 rfl rfl)⟩)
    | 1,hj=>(cases hj; exact ⟨by kernel_rfl,v1,rfl,Gp.zhS Gp.YtddabbooahooeaaGreatDoor.tabOk (fun _=>rfl) (m:=8) (by kernel_rfl) (by kernel_rfl) k1 (hval 1 _ v1 rfl rfl)⟩)
    | k + 2,hj=>simp [Gp.YtddabbooahooeaaGreatDoor.tisFnTidOrder] at hj
  clear hA0 hval0 hsz0 hL
  refine (Gp.zi0 (i:=83) (tis:=Gp.YtddabbooahooeaaGreatDoor.tisFnTidOrder) Gp.YtddabbooahooeaaGreatDoor.all rfl (by kernel_rfl) (by kernel_rfl) rfl rfl hargs Gp.YtddabbooahooeaaGreatDoor.pureFnTidOrder).mono fun e W' ⟨he,b1,b2,b3,b4,b5⟩=>?_
  have bel:Below W.heap.size W W':=⟨b1,b2,b3,b4,b5⟩
  subst he
  exact ⟨_,rfl,_,_,_,[],_,[],hW',trodAll_mk1 (shut_bool Go.Proofs.Tryz.underlying4 _),(trodAll_cons_mk (Below.trod ziN (by kernel_rfl) (of_decide_eq_true (by kernel_rfl)) k0 bel lt0) (trodAll_cons_mk (Below.trod ziN (by kernel_rfl) (of_decide_eq_true (by kernel_rfl)) k1 bel lt1) trodAll_mk0)),rfl,bel.frame _,fun h=>by cases h⟩
theorem zkL:Rows.fnTidOrderRow.holds Tryz.pinned (OpenSpec.ofChange Rows.fnTidOrderSpec) :=
  OpenClaim.holds_of_wide 5 Go.Proofs.Tryz.f5 rfl rfl rfl rfl rfl rfl rfl ⟨rfl,rfl,rfl,rfl,rfl⟩ rfl rfl rfl rfl rfl (by kernel_rfl) Go.Proofs.Tryz.func5 (by kernel_rfl)
    (of_decide_eq_true (by kernel_rfl)) (by unfold Func.isWrapper; first | (rw [if_pos (by decide +kernel)]; kernel_rfl) | (rw [if_neg (by decide +kernel)]; exact ⟨rfl,rfl⟩))
    (fun os started H enc _=>zk2 os started H enc)
theorem card : Rows.FnTidOrderCardSaid :=
  Claim7.holds_tied_plain_at .later [] [.data,.data,.data,.data,.pinned] true (true,"3de93a469ec3f65aa4d77056125a052425cc57846ed358f0c1d01aad8774411b") true zkL (fun _ h=>by cases h) (by kernel_rfl) (fun _ h=>by cases h) fnTidOrder_row_tie rfl ⟨rfl,rfl⟩ (by kernel_rfl) rfl
    (fun f fn hf hfn=>by
      obtain rfl:f=5:=Option.some.inj ((show Go.Proofs.Tryz.prog.funcNamed Rows.fnTidOrderRow.func=some 5 by kernel_rfl).symm.trans hf) |>.symm
      obtain rfl:fn=Go.Proofs.Tryz.f5:=(Option.some.inj (Go.Proofs.Tryz.func5.symm.trans hfn)).symm
      exact ⟨by kernel_rfl,fun j t ht=>by
        have hall:(Go.Proofs.Tryz.f5.params.toList.all fun u=>!Go.Proofs.Tryz.prog.wantsStandIn u)=true:=by kernel_rfl
        have:=List.all_eq_true.1 hall t (Array.mem_toList_iff.2 (Array.mem_of_getElem? ht))
        have h2:Go.Proofs.Tryz.prog.wantsStandIn t=false:=by simpa using this
        exact h2⟩)
    (by kernel_rfl)
end Go.Proofs.YtddabbooahooeaaGreatDoor.fnTidOrder
namespace Go.Proofs.YtddabbooahooeaaGreatDoor
/-- The card, under a short name, for the claim. -/
theorem fnTidOrder_holds:Rows.FnTidOrderCardSaid:=fnTidOrder.card
end Go.Proofs.YtddabbooahooeaaGreatDoor

