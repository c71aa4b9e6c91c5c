import Derived.Test.YthhmbcblhgnelaaGreatDoorGpOp13
set_option linter.unusedVariables false
set_option linter.unusedSimpArgs false
namespace Gp
open Go
section
variable {tab:Tab}{Γ:Gam}{ρ:Env}{tm:Array Value}{w w':World}{C:Ctx}{kn:Kn}{Wr:CS}{w0:World}{P:Program}{I:Nat->List T->List T->Prop}{G:Grd}{nx no:Nat}
def anAppendK(tab:Tab)(Γ:Gam)(G:Grd)(nx no:Nat)(t t2:TypeId)(x y:Operand):Option Res:=none
def anAppendL(tab:Tab)(Γ:Gam)(G:Grd)(nx no:Nat)(t t2:TypeId)(x y:Operand):Option Res:=none
theorem zeU (hT:TabOk P tab)(h:Rel tab Γ ρ tm w C kn Wr w0)(hG:holdsG ρ G){t t2:TypeId}{x y:Operand}{r:Res}(hr:anAppendK tab Γ G nx no t t2 x y=some r)(hS:HoldsS I ρ r.sis)
 (hf:∀o,no<=o->o<r.no->¬kn.o o) (hfx:∀x,nx<=x->x<r.nx->¬kn.v x) {ds:List Deferred}
 {dst:Option Tmp} {ty:TypeId} {pos:String} {aft:Array Edge} {gd:Option (Nat × Bool)} :
 Yield P (execOp (Act.eval ⟨tm,ds⟩) ⟨dst,.call { callee:=.builtin .append,args:=#[x,y],argTypes:=#[t,t2] },ty,pos,aft,gd⟩) w fun v w'=>Post tab Γ ρ tm C kn Wr w0 nx no r v w':=by
 unfold anAppendK at hr;cases hr
theorem zeO (hT:TabOk P tab)(h:Rel tab Γ ρ tm w C kn Wr w0)(hG:holdsG ρ G){t t2:TypeId}{x y:Operand}{r:Res}(hr:anAppendL tab Γ G nx no t t2 x y=some r)(hS:HoldsS I ρ r.sis)
 (hf:∀o,no<=o->o<r.no->¬kn.o o) (hfx:∀x,nx<=x->x<r.nx->¬kn.v x) {ds:List Deferred}
 {dst:Option Tmp} {ty:TypeId} {pos:String} {aft:Array Edge} {gd:Option (Nat × Bool)} :
 Yield P (execOp (Act.eval ⟨tm,ds⟩) ⟨dst,.call { callee:=.builtin .append,args:=#[x,y],argTypes:=#[t,t2] },ty,pos,aft,gd⟩) w fun v w'=>Post tab Γ ρ tm C kn Wr w0 nx no r v w':=by
 unfold anAppendL at hr;cases hr
end
end Gp
