/- The row of the law FnOcc: its call, told by its pure program, in the kit's form of a row; and the card that ties what the row lists. -/
import Derived.Test.YthhmbcblhgnelaaGreatDoorRows
import Derived.Test.YthhmbcblhgnelaaGreatDoorCards
import Derived.Test.YthhmbcblhgnelaaGreatDoorTie
import Derived.Test.YthhmbcblhgnelaaGreatDoorGpTop3
import Derived.Test.YthhmbcblhgnelaaGreatDoorGpLFnOcc
import Derived.WalkKit
import Derived.ProofKit
import Derived.OpenShut
import Derived.ShutString
import Derived.ChangeOld
import Derived.Below
import Derived.SizedLaws
import Derived.LaidMore
import Derived.Lay
import Derived.SevenTiedAt
import Derived.Stop.Joined
set_option linter.unusedVariables false
set_option linter.unusedSimpArgs false
namespace Go.Proofs.YthhmbcblhgnelaaGreatDoor.fnOcc
open Go.ChangeShapes Go.WideShapes Go.ChangeAt Go.RowKit
theorem own:ownKnob Go.Proofs.Tryz.prog.godebug=none:=by kernel_rfl
theorem zlh:laidOutB Go.Proofs.Tryz.prog=true:=by kernel_rfl
set_option maxRecDepth 100000 in
theorem zlk (os:Os)(started:os.Started)(H:Type)(enc:TypeId × Value->H) :
    ReturnsInHanded {} Go.Proofs.Tryz.checked os 3 .any (fun w args=>(Rows.fnOccSpec.pre enc Go.Proofs.Tryz.prog Go.Proofs.Tryz.f3 Rows.fnOccRow.domain false w args/\laidMetH Go.Proofs.Tryz.prog Rows.fnOccRow.laid w)/\sizedMet enc Go.Proofs.Tryz.prog Go.Proofs.Tryz.f3 (OpenSpec.ofChange Rows.fnOccSpec) false w args) (Rows.fnOccSpec.post enc Go.Proofs.Tryz.prog Go.Proofs.Tryz.f3 false true false false):=by
  refine returnsInHanded_of_change_and (C:=Go.Proofs.Tryz.checked) (X:=fun w _=>laidMetH Go.Proofs.Tryz.prog Rows.fnOccRow.laid w) (fun _ _ _ hh h=>h.of_heap hh) own started (by kernel_rfl) Go.Proofs.Tryz.func3
    (ChangeSpec.witness_shaped (enc:=enc) (C:=Go.Proofs.Tryz.checked) (os:=os) (X:=fun w _=>laidMetH Go.Proofs.Tryz.prog Rows.fnOccRow.laid w) false (World.laidAll Go.Proofs.Tryz.prog os Rows.fnOccRow.laid) Gp.YthhmbcblhgnelaaGreatDoor.zeroFnOcc 8 (World.laidAll_os _ _ _)
      (World.shaped_of_ZipB (by kernel_rfl) (by kernel_rfl)) (by kernel_rfl) (by kernel_rfl) (by kernel_rfl)
      (by rw[MakeChecks.laidMetH_plain _ _ _ (by kernel_rfl)];exact laidMet_laidAll _ (by kernel_rfl) (by kernel_rfl))) ?_
  intro W base args ds gs before hval0 hW hcnd hsz0 hL _
  have hval:∀(j:Nat) t v,Go.Proofs.Tryz.f3.params[j]? = some t->args[j]? = some v->Value.okWide Go.Proofs.Tryz.prog W .any base t v:=hval0
  have hW':=hW
  obtain⟨p,q,hA0,hV,rfl,hfz,hnd⟩:=hW
  have hA:DataW.TrodAll enc Go.Proofs.Tryz.prog W 0 (fun _=>true) true Go.Proofs.Tryz.f3.params.toList args.toList ds p:=hA0
  rw[Go.Proofs.Tryz.params3]at hA hval
  obtain⟨v0,vs0,d0,ds0,p0,q0,hargs,rfl,rfl,h0,r0⟩:=trodAll_cons hA
  obtain⟨rfl,rfl,rfl⟩:=trodAll_nil r0
  obtain rfl:args = #[v0]:=by cases args;simp_all
  obtain⟨rfl,rfl⟩:=trodVars_none hV
  have k0:=h0
  have lt0:∀x∈p0,x.block<W.heap.size:=by obtain⟨m,hm⟩:=k0;exact DataW.trod_lt m _ _ _ hm
  have hargs:∀(j:Nat) ti,(Gp.YthhmbcblhgnelaaGreatDoor.tisFnOcc)[j]? = some ti->ti.size=ti.cks.length/\∃u,(#[v0]:Array Value)[j]? = some u/\Gp.ArgIn Gp.YthhmbcblhgnelaaGreatDoor.tab W ti u:=by
    intro j ti hj
    match j,hj with
    |0,hj=>(cases hj;exact⟨by kernel_rfl,v0,rfl,Gp.zkk Gp.YthhmbcblhgnelaaGreatDoor.tabOk (fun _=>rfl) (m:=8) (by kernel_rfl) (by kernel_rfl) k0 (hval 0 _ v0 rfl rfl)⟩)
    |k+1,hj=>simp[Gp.YthhmbcblhgnelaaGreatDoor.tisFnOcc]at hj
  clear hA0 hval0 hsz0 hL
  refine (Gp.zjs (i:=83) (tis:=Gp.YthhmbcblhgnelaaGreatDoor.tisFnOcc) Gp.YthhmbcblhgnelaaGreatDoor.all rfl (by kernel_rfl) (by kernel_rfl) rfl rfl hargs Gp.YthhmbcblhgnelaaGreatDoor.pureFnOcc).mono fun e W' ⟨he,b1,b2,b3,b4,b5⟩=>?_
  have bel:Below W.heap.size W W':=⟨b1,b2,b3,b4,b5⟩
  subst he
  exact⟨_,rfl,_,_,_,[],_,[],hW',trodAll_mk1 (shut_bool Go.Proofs.Tryz.underlying4 _),(trodAll_cons_mk (Below.trod zlh (by kernel_rfl) (of_decide_eq_true (by kernel_rfl)) k0 bel lt0) trodAll_mk0),rfl,bel.frame _,fun h=>by cases h⟩
theorem zlC:Rows.fnOccRow.holds Tryz.pinned (OpenSpec.ofChange Rows.fnOccSpec) :=
  OpenClaim.holds_of_wide 3 Go.Proofs.Tryz.f3 rfl rfl rfl rfl rfl rfl rfl ⟨rfl,rfl,rfl,rfl,rfl⟩ rfl rfl rfl rfl rfl (by kernel_rfl) Go.Proofs.Tryz.func3 (by kernel_rfl)
    (of_decide_eq_true (by kernel_rfl)) (by unfold Func.isWrapper;first|(rw[if_pos (by decide +kernel)];kernel_rfl)|(rw[if_neg (by decide +kernel)];exact⟨rfl,rfl⟩))
    (fun os started H enc _=>zlk os started H enc)
theorem card : Rows.FnOccCardSaid :=
  Claim7.holds_tied_plain_at .later [] [.data,.data,.data,.data,.pinned] true (true,"c8bb6fe61aa918703ee2bd2e2c63cbbf463288c6fa4a7d211864e832d27cfd4c") false zlC (fun _ h=>by cases h) (by kernel_rfl) (fun _ h=>by cases h) fnOcc_row_tie rfl ⟨rfl,rfl⟩ (by kernel_rfl) rfl
    (fun f fn hf hfn=>by
      obtain rfl:f=3:=Option.some.inj ((show Go.Proofs.Tryz.prog.funcNamed Rows.fnOccRow.func=some 3 by kernel_rfl).symm.trans hf) |>.symm
      obtain rfl:fn=Go.Proofs.Tryz.f3:=(Option.some.inj (Go.Proofs.Tryz.func3.symm.trans hfn)).symm
      exact⟨by kernel_rfl,fun j t ht=>by
        have hall:(Go.Proofs.Tryz.f3.params.toList.all fun u=>!Go.Proofs.Tryz.prog.wantsStandIn u)=true:=by kernel_rfl
        have:=List.all_eq_true.1 hall t (Array.mem_toList_iff.2 (Array.mem_of_getElem? ht))
        have h2:Go.Proofs.Tryz.prog.wantsStandIn t=false:=by simpa using this
        exact h2⟩)
    (by kernel_rfl)
end Go.Proofs.YthhmbcblhgnelaaGreatDoor.fnOcc
namespace Go.Proofs.YthhmbcblhgnelaaGreatDoor
/-- The card, under a short name, for the claim. -/
theorem fnOcc_holds:Rows.FnOccCardSaid:=fnOcc.card
end Go.Proofs.YthhmbcblhgnelaaGreatDoor

