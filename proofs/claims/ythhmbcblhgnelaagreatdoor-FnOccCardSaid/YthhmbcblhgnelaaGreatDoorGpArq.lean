import Derived.Test.YthhmbcblhgnelaaGreatDoorGpCv
set_option linter.unusedVariables false
set_option linter.unusedSimpArgs false
namespace Gp
open Go
section
variable {tab:Tab}{Γ:Gam}{ρ:Env}{tm:Array Value}{w w':World}{C:Ctx}{kn:Kn}{Wr:CS}{w0:World}{P:Program}{I:Nat->List T->List T->Prop}{G:Grd}{nx no:Nat}
def anBinA (tab:Tab)(Γ:Gam)(G:Grd)(nx no:Nat)(o:BinOp)(xt:TypeId)(x y:Operand):Option Res:=none
theorem zgX (hT:TabOk P tab)(h:Rel tab Γ ρ tm w C kn Wr w0)(hG:holdsG ρ G){o:BinOp}{xt yt:TypeId}{x y:Operand}{r:Res}(hr:anBinA tab Γ G nx no o xt x y=some r){ds:List Deferred}
 {dst:Option Tmp} {ty:TypeId} {pos:String} {aft:Array Edge} {gd:Option (Nat × Bool)} :
 Yield P (execOp (Act.eval ⟨tm,ds⟩) ⟨dst,.binOp o xt x y yt,ty,pos,aft,gd⟩) w fun v w'=>Post tab Γ ρ tm C kn Wr w0 nx no r v w':=by
 unfold anBinA at hr;cases hr
def anLoadA (tab:Tab)(Γ:Gam)(G:Grd)(nx no:Nat)(t:TypeId)(x:Operand):Option Res:=none
theorem zgp (hT:TabOk P tab)(h:Rel tab Γ ρ tm w C kn Wr w0)(hG:holdsG ρ G){t:TypeId}{x:Operand}{r:Res}(hr:anLoadA tab Γ G nx no t x=some r)(hS:HoldsS I ρ r.sis){ds:List Deferred}
 {dst:Option Tmp} {ty:TypeId} {pos:String} {aft:Array Edge} {gd:Option (Nat × Bool)} :
 Yield P (execOp (Act.eval ⟨tm,ds⟩) ⟨dst,.load t x,ty,pos,aft,gd⟩) w fun v w'=>Post tab Γ ρ tm C kn Wr w0 nx no r v w':=by
 unfold anLoadA at hr;cases hr
end
end Gp
