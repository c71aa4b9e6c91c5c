import Derived.Test.YthhmbcblhgnelaaGreatDoorGpMap
set_option linter.unusedVariables false
set_option linter.unusedSimpArgs false
namespace Gp
open Go
section
variable {tab:Tab}{Γ:Gam}{ρ:Env}{tm:Array Value}{w w':World}{C:Ctx}{kn:Kn}{Wr:CS}{w0:World}{P:Program}{I:Nat->List T->List T->Prop}{G:Grd}{nx no:Nat}
def anAllocA (tab:Tab)(G:Grd)(nx no:Nat)(t:TypeId):Option Res:=none
theorem zfi (hT:TabOk P tab)(h:Rel tab Γ ρ tm w C kn Wr w0)(hG:holdsG ρ G){t:TypeId}{r:Res}(hr:anAllocA tab G nx no t=some r)(hS:HoldsS I ρ r.sis)(hf:∀o,no<=o->o<r.no->¬kn.o o)(hfx:∀x,nx<=x->x<r.nx->¬kn.v x){ds:List Deferred}
 {dst:Option Tmp} {ty:TypeId} {pos:String} {aft:Array Edge} {gd:Option (Nat × Bool)} :
 Yield P (execOp (Act.eval ⟨tm,ds⟩) ⟨dst,.alloc t,ty,pos,aft,gd⟩) w fun v w'=>Post tab Γ ρ tm C kn Wr w0 nx no r v w':=by
 unfold anAllocA at hr;cases hr
def anBuildA (tab:Tab)(nx no:Nat)(t:TypeId)(parts:Array (Nat × Operand)):Option Res:=none
theorem zfj (hT:TabOk P tab)(h:Rel tab Γ ρ tm w C kn Wr w0){t:TypeId}{parts:Array (Nat × Operand)}{r:Res}(hr:anBuildA tab nx no t parts=some r){ds:List Deferred}
 {dst:Option Tmp} {ty:TypeId} {pos:String} {aft:Array Edge} {gd:Option (Nat × Bool)} :
 Yield P (execOp (Act.eval ⟨tm,ds⟩) ⟨dst,.build t parts,ty,pos,aft,gd⟩) w fun v w'=>Post tab Γ ρ tm C kn Wr w0 nx no r v w':=by
 unfold anBuildA at hr;cases hr
def anIndexAddrA(tab:Tab)(Γ:Gam)(G:Grd)(nx no:Nat)(t:TypeId)(x i:Operand):Option Res:=none
theorem zdj (hT:TabOk P tab)(h:Rel tab Γ ρ tm w C kn Wr w0)(hG:holdsG ρ G){t:TypeId}{x i:Operand}{r:Res}(hr:anIndexAddrA tab Γ G nx no t x i=some r)(hS:HoldsS I ρ r.sis){ds:List Deferred}
 {dst:Option Tmp} {ty:TypeId} {pos:String} {aft:Array Edge} {gd:Option (Nat × Bool)} :
 Yield P (execOp (Act.eval ⟨tm,ds⟩) ⟨dst,.indexAddr t x i,ty,pos,aft,gd⟩) w fun v w'=>Post tab Γ ρ tm C kn Wr w0 nx no r v w':=by
 unfold anIndexAddrA at hr;cases hr
def anStoreA (tab:Tab)(Γ:Gam)(G:Grd)(nx no:Nat)(t:TypeId)(a v:Operand):Option Res:=none
theorem zeY (hT:TabOk P tab)(h:Rel tab Γ ρ tm w C kn Wr w0)(hG:holdsG ρ G){t:TypeId}{a v:Operand}{r:Res}(hr:anStoreA tab Γ G nx no t a v=some r)(hS:HoldsS I ρ r.sis)
 (hfx:∀x,nx<=x->x<r.nx->¬kn.v x) {ds:List Deferred}
 {dst:Option Tmp} {ty:TypeId} {pos:String} {aft:Array Edge} {gd:Option (Nat × Bool)} :
 Done P ⟨dst,.store t a v,ty,pos,aft,gd⟩ ⟨tm,ds⟩ w fun v w'=>Post tab Γ ρ tm C kn Wr w0 nx no r v w':=by
 unfold anStoreA at hr;cases hr
end
end Gp
