import Derived.Test.YtddabbooahooeaaGreatDoorGpEqs
import Derived.Lib.ConvBytes
set_option linter.unusedVariables false
set_option linter.unusedSimpArgs false
namespace Gp
open Go
section
variable {tab:Tab} {Γ:Gam} {ρ:Env} {tm:Array Value} {w w':World} {C:Ctx} {kn:Kn} {Wr:CS} {w0:World} {P:Program} {I:Nat->List T->List T->Prop} {G:Grd} {nx no:Nat}
def anConvS (tab:Tab) (Γ:Gam) (G:Grd) (nx no:Nat) (src dst:TypeId) (x:Operand):Option Res :=
 match opd Γ G x,tab.get src,tab.get dst with
 | some (.s (.one (.str s))), some si, some ti => match si.td, ti.td with
   | .str, .slice e => match tab.get e with
     | some ei => match ei.td with
       | .int .u8=>some ⟨.s (.one (.sl no e (.int 0) (.un .slen s))),[(no,some (G,.row false e (.var nx)))],[(G,.set nx (.un .bytes s))],nx + 1,no + 1⟩
       | _=>none
     | none=>none
   | _,_=>none
 | _,_,_=>none
theorem zfY (hT:TabOk P tab) (h:Rel tab Γ ρ tm w C kn Wr w0) (hG:holdsG ρ G) {src ds':TypeId} {x:Operand} {r:Res} (hr:anConvS tab Γ G nx no src ds' x=some r) (hS:HoldsS I ρ r.sis)
 (hf:∀ o,no <= o->o < r.no->¬ kn.o o) {ds:List Deferred}
 {dst:Option Tmp} {ty:TypeId} {pos:String} {aft:Array Edge} {gd:Option (Nat × Bool)} :
 Yield P (execOp (Act.eval ⟨tm,ds⟩) ⟨dst,.convert src ds' x,ty,pos,aft,gd⟩) w fun v w'=>Post tab Γ ρ tm C kn Wr w0 nx no r v w':=by
 unfold anConvS at hr
 split at hr
 case h_2=>cases hr
 rename_i s si ti hx hsi hti
 split at hr
 case h_2=>cases hr
 rename_i e hsd htd
 split at hr
 case h_2=>cases hr
 rename_i ei hei
 split at hr
 case h_2=>cases hr
 rename_i hed
 cases hr
 have us:=zek hT hsi hsd
 have ut:=za3 hT hti htd
 obtain ⟨d,u1,u2,_⟩:=zbQ hT hei
 rw [hed] at u2
 cases d <;> simp [tdChk] at u2
 subst u2
 have hck:ei.cks = [.int .u8]:=by
  have hc:=(hT e ei hei).cks
  unfold cksOf at hc
  rw [hed] at hc
  simpa using hc
 have hsz:ei.size=1:=by rw [(hT e ei hei).len,hck]; rfl
 obtain ⟨b,hb,hv⟩:=zdo (zab h hG hx (ds:=ds))
 have hset:ρ nx=T.bytes (.str b):=by
  have:=hS (G,.set nx (.un .bytes s)) (by simp) hG
  have e2:ρ nx=den ρ (.un .bytes s):=this
  rw [e2]; simp only [den,U.den,hb]
 have hno:=hf no (Nat.le_refl _) (by simp)
 unfold Yield
 simp only [execOp,hv,Sem.run_bind,Lib.run_convert_string_bytes w src ds' e b us ut u1,Result.andThen_ok,Sem.run_pure]
 refine ⟨_,_,rfl,?_⟩
 have hgr:Grows w (Lib.bytesWorld w e b):=⟨by rw [Lib.bytesWorld_size]; omega,fun j hj=>Lib.bytesWorld_at_old w e b j hj,by simp [Lib.bytesWorld,World.freeze,World.alloc,World.drew,-World.alloc_eq,-World.drew_eq],
  by simp [Lib.bytesWorld,World.freeze,World.alloc,World.drew,-World.alloc_eq,-World.drew_eq],by simp [Lib.bytesWorld,World.freeze,World.alloc,World.drew,-World.alloc_eq,-World.drew_eq]⟩
 have hlen:b.data.toList.length=b.size:=Array.length_toList
 have hD : DRel tab (Lib.bytesWorld w e b) false (.sl e) (.slice (some ⟨w.heap.size, 0, none⟩) b.size (grownCap w b.size 0 e)) (.list (b.data.toList.map fun x : UInt8 => T.int (x.toNat : Int))) (rowF w.heap.size 0 b.size b.size 1 fun _ _ => Emp) := by
  refine .sl (vs:=fun i _=>.int .u8 (b.data.toList.getD i 0).toNat) (Fs:=fun _ _=>Emp) hei (hT e ei hei).len (by rw [List.length_map,hlen]) (zcd w b.size 0 e) (.inl rfl) ?_ ?_ ?_ (fun h=>by cases h) (fun h=>by cases h) (fun h=>by cases h) (by rw [hsz]; rfl)
  · rw [hsz]
    unfold WfRows
    intro h1
    exact absurd rfl h1
  · intro i j hi hj
    rw [hsz] at hj
    have:j=0:=by omega
    subst this
    unfold cellAt
    rw [hsz,Nat.mul_one,Nat.zero_add,Nat.add_zero]
    exact Lib.bytesWorld_cell w e b i hi
  · intro i j ck hi hj
    rw [hck] at hj
    cases j with
    | succ j=>simp at hj
    | zero =>
      simp at hj; subst hj
      have:cellT ei.size (b.data.toList.map fun x:UInt8=>T.int (x.toNat:Int)) i 0 = .int (b.data.toList.getD i 0).toNat:=by
       unfold cellT
       rw [if_pos hsz,List.getD_eq_getElem?_getD,List.getElem?_map,List.getD_eq_getElem?_getD,List.getElem?_eq_getElem (show i < b.data.toList.length by rw [hlen]; exact hi)]
       rfl
      rw [this]
      exact .int
 have hR:=(h.grows hgr).addOb (o:=no) hno (g:=G) (ob:=.row false e (.var nx)) (A:=some ⟨w.heap.size,0,none⟩) (N:=b.size) (K:=grownCap w b.size 0 e) (F:=rowF w.heap.size 0 b.size b.size 1 fun _ _=>Emp)
  trivial (fun _=>?_) (fun _ hw=>by cases hw) (fun _ _ o' g' ob' ho' hg' hv'=>?_) (fun _ hw=>by cases hw)
 · refine ⟨_, _, hR, ?_, Ext.set hno (Kn.le_addO _ _), fun o ho => ho.imp id fun e => by simp only at e ⊢; omega, fun x hx => .inl hx⟩
   refine ⟨⟨.inr rfl,0,b.size,_,grownCap w b.size 0 e,rfl,?_,rfl,?_,zcd w b.size 0 e,?_,?_⟩,fun cs=>by simp⟩
   · simp only [den,U.den,hb,T.slen]
   · rw [Ctx.set_self.2.1]; omega
   · rw [Ctx.set_self.2.2.1]; omega
   · exact .inr ⟨w.heap.size,0,by rw [Ctx.set_self.1],by simp⟩
 · refine ⟨b.data.toList.map fun x : UInt8 => T.int (x.toNat : Int), hset, ?_⟩
   · rw [Ctx.set_self.1, Ctx.set_self.2.1, Ctx.set_self.2.2.1, Ctx.set_self.2.2.2]
     exact hD
 · intro b' x' hf' hf2
   have hvw:ob'.isView=false:=by
    cases ob' with
    | view=>cases hv'
    | _=>rfl
   have hlt:=h.old ho' hg' hvw hf'
   rcases hf2 with ⟨rfl,_,_⟩ | ⟨i,j,_,_,q⟩
   · omega
   · exact q
def anLoadZ (tab:Tab) (nx no:Nat) (t:TypeId) (a:Operand):Option Res:=none
theorem zfV (hT:TabOk P tab) (h:Rel tab Γ ρ tm w C kn Wr w0) {t:TypeId} {x:Operand} {r:Res} (hr:anLoadZ tab nx no t x=some r) {ds:List Deferred}
 {dst:Option Tmp} {ty:TypeId} {pos:String} {aft:Array Edge} {gd:Option (Nat × Bool)} :
 Yield P (execOp (Act.eval ⟨tm,ds⟩) ⟨dst,.load t x,ty,pos,aft,gd⟩) w fun v w'=>Post tab Γ ρ tm C kn Wr w0 nx no r v w':=by
 unfold anLoadZ at hr; cases hr
end
end Gp
namespace Gp
open Go
section
variable {tab:Tab} {Γ:Gam} {ρ:Env} {tm:Array Value} {w w':World} {C:Ctx} {kn:Kn} {Wr:CS} {w0:World} {P:Program} {I:Nat->List T->List T->Prop} {G:Grd} {nx no:Nat}
def anAppendS (tab:Tab) (Γ:Gam) (G:Grd) (nx no:Nat) (t t2:TypeId) (x y:Operand):Option Res:=none
theorem ze8 (hT:TabOk P tab) (h:Rel tab Γ ρ tm w C kn Wr w0) (hG:holdsG ρ G) {t t2:TypeId} {x y:Operand} {r:Res} (hr:anAppendS tab Γ G nx no t t2 x y=some r) (hS:HoldsS I ρ r.sis)
 (hf:∀ o,no <= o->o < r.no->¬ kn.o o) (hfx:∀ x,nx <= x->x < r.nx->¬ kn.v x) {ds:List Deferred}
 {dst:Option Tmp} {ty:TypeId} {pos:String} {aft:Array Edge} {gd:Option (Nat × Bool)} :
 Yield P (execOp (Act.eval ⟨tm,ds⟩) ⟨dst,.call { callee:=.builtin .append,args:=#[x,y],argTypes:=#[t,t2] },ty,pos,aft,gd⟩) w fun v w'=>Post tab Γ ρ tm C kn Wr w0 nx no r v w':=by
 unfold anAppendS at hr; cases hr
end
end Gp
