import Derived.Test.YthhmbcblhgnelaaGreatDoorGpEqs
import Derived.Lib.ConvBytes
set_option linter.unusedVariables false
set_option linter.unusedSimpArgs false
namespace Gp
open Go
section
variable {tab:Tab}{Γ:Gam}{ρ:Env}{tm:Array Value}{w w':World}{C:Ctx}{kn:Kn}{Wr:CS}{w0:World}{P:Program}{I:Nat->List T->List T->Prop}{G:Grd}{nx no:Nat}
def anConvS (tab:Tab)(Γ:Gam)(G:Grd)(nx no:Nat)(src dst:TypeId)(x:Operand):Option Res:=none
theorem zgg (hT:TabOk P tab)(h:Rel tab Γ ρ tm w C kn Wr w0)(hG:holdsG ρ G){src ds':TypeId}{x:Operand}{r:Res}(hr:anConvS tab Γ G nx no src ds' x=some r)(hS:HoldsS I ρ r.sis)
 (hf:∀o,no<=o->o<r.no->¬kn.o o) {ds:List Deferred}
 {dst:Option Tmp} {ty:TypeId} {pos:String} {aft:Array Edge} {gd:Option (Nat × Bool)} :
 Yield P (execOp (Act.eval ⟨tm,ds⟩) ⟨dst,.convert src ds' x,ty,pos,aft,gd⟩) w fun v w'=>Post tab Γ ρ tm C kn Wr w0 nx no r v w':=by
 unfold anConvS at hr;cases hr
def anLoadZ (tab:Tab)(nx no:Nat)(t:TypeId)(a:Operand):Option Res:=none
theorem zgh (hT:TabOk P tab)(h:Rel tab Γ ρ tm w C kn Wr w0){t:TypeId}{x:Operand}{r:Res}(hr:anLoadZ tab nx no t x=some r){ds:List Deferred}
 {dst:Option Tmp} {ty:TypeId} {pos:String} {aft:Array Edge} {gd:Option (Nat × Bool)} :
 Yield P (execOp (Act.eval ⟨tm,ds⟩) ⟨dst,.load t x,ty,pos,aft,gd⟩) w fun v w'=>Post tab Γ ρ tm C kn Wr w0 nx no r v w':=by
 unfold anLoadZ at hr;cases hr
end
end Gp
namespace Gp
open Go
section
variable {tab:Tab}{Γ:Gam}{ρ:Env}{tm:Array Value}{w w':World}{C:Ctx}{kn:Kn}{Wr:CS}{w0:World}{P:Program}{I:Nat->List T->List T->Prop}{G:Grd}{nx no:Nat}
def anAppendS(tab:Tab)(Γ:Gam)(G:Grd)(nx no:Nat)(t t2:TypeId)(x y:Operand):Option Res:=none
theorem zeL (hT:TabOk P tab)(h:Rel tab Γ ρ tm w C kn Wr w0)(hG:holdsG ρ G){t t2:TypeId}{x y:Operand}{r:Res}(hr:anAppendS tab Γ G nx no t t2 x y=some r)(hS:HoldsS I ρ r.sis)
 (hf:∀o,no<=o->o<r.no->¬kn.o o) (hfx:∀x,nx<=x->x<r.nx->¬kn.v x) {ds:List Deferred}
 {dst:Option Tmp} {ty:TypeId} {pos:String} {aft:Array Edge} {gd:Option (Nat × Bool)} :
 Yield P (execOp (Act.eval ⟨tm,ds⟩) ⟨dst,.call { callee:=.builtin .append,args:=#[x,y],argTypes:=#[t,t2] },ty,pos,aft,gd⟩) w fun v w'=>Post tab Γ ρ tm C kn Wr w0 nx no r v w':=by
 unfold anAppendS at hr;cases hr
end
end Gp
