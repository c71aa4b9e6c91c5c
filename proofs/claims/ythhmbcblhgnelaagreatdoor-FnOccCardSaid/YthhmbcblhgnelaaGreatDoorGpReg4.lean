import Derived.Test.YthhmbcblhgnelaaGreatDoorGpCall4
import Derived.Test.YthhmbcblhgnelaaGreatDoorGpArq
import Derived.Test.YthhmbcblhgnelaaGreatDoorGpPart
set_option linter.unusedVariables false
set_option linter.unusedSimpArgs false
namespace Gp
open Go
def argS1 (Γ:Gam)(G:Grd)(x:Operand):Option S1:=match opd Γ G x with
 |some (.s x)=>some x
 |_=>none
def trySigs (tab:Tab)(Γ:Gam)(G:Grd)(nx no:Nat)(f:FuncId)(xs:List S1):List Sig->Nat->Option Res
 |[],_=>none
 | S :: r, i => match trySigs tab Γ G nx no f xs r (i + 1) with
   |some x=>some x
   |none=>if Nat.beq S.f f then anCall tab S i Γ G nx no xs else none
def anCallV (tab:Tab)(sigs:List Sig)(Γ:Gam)(G:Grd)(nx no:Nat)(f:Operand)(args:Array Operand):Option Res :=
 match opd Γ G f,args.toList.mapM (argS1 Γ G) with
 |some (.s (.one (.fn fid caps))),some xs=>trySigs tab Γ G nx no fid (xs++caps.map fun o=>.one (.pb o 0)) sigs 0
 |_,_=>none
def anBuiltin(tab:Tab)(Γ:Gam)(G:Grd)(nx no:Nat)(b:Builtin)(args:List Operand)(ts:List TypeId):Option Res :=
 match b,args,ts with
 |.len,[x],[t]=>anLen tab Γ G nx no t x
 | .append, [x, y], [t, t2] => match anAppendK tab Γ G nx no t t2 x y with
   |some r=>some r
   | none => match anAppendL tab Γ G nx no t t2 x y with
     |some r=>some r
     | none => match anAppend tab Γ G nx no t t2 x y with
       |some r=>some r
       | none => match anAppendZ tab Γ G nx no t t2 x y with
         |some r=>some r
         |none=>anAppendS tab Γ G nx no t t2 x y
 |.max,[x,y],_=>anMax Γ G nx no true x y
 |.min,[x,y],_=>anMax Γ G nx no false x y
 |.clear,[x],[t]=>anClear tab Γ G nx no t x
 |_,_,_=>none
def anOp (tab:Tab)(sigs:List Sig)(Γ:Gam)(G:Grd)(nx no:Nat)(op:Op):Option Res :=
 match op with
 |.move x=>anMove Γ G nx no x
 |.assign x=>anMove Γ G nx no x
 |.pick c a b=>anPick Γ G nx no c a b
 | .alloc t => match anAllocA tab G nx no t with
   |some r=>some r
   |none=>anAlloc tab G nx no t
 |.box _ x=>anBox Γ G nx no x
 | .build t ps => match anBuild tab Γ G nx no t ps with
   |some r=>some r
   |none=>anBuildA tab nx no t ps
 |.buildSlice t n ps=>anBuildSlice tab Γ G nx no t n ps
 | .load t a => match anLoad tab Γ G nx no t a with
   |some r=>some r
   | none => match anLoadZ tab nx no t a with
     |some r=>some r
     |none=>anLoadA tab Γ G nx no t a
 | .store t a v => match anStore tab Γ G nx no t a v with
   |some r=>some r
   |none=>anStoreA tab Γ G nx no t a v
 |.nilCheck x=>anNil Γ G nx no x
 | .binOp o xt x y _ => match anBin tab Γ G nx no o xt x y with
   |some r=>some r
   | none => match anBinS tab Γ G nx no o xt x y with
     |some r=>some r
     |none=>anBinA tab Γ G nx no o xt x y
 |.unOp o _ x=>anUn Γ G nx no o x
 | .convert s d x => match anConv tab Γ G nx no s d x with
   |some r=>some r
   | none => match anConvB tab Γ G nx no s d x with
     |some r=>some r
     |none=>anConvS tab Γ G nx no s d x
 |.makeFunc f a b=>anFunc Γ G nx no f a b
 |.makeSlice t l c=>anMakeSlice tab Γ G nx no t l c
 |.slice t x lo hi mx=>anSlice tab Γ G nx no t x lo hi mx
 |.fieldAddr s x f=>anFieldAddr tab Γ G nx no s x f
 |.field t x f=>anField tab Γ G nx no t x f
 | .indexAddr t x i => match anIndexAddr tab Γ G nx no t x i with
   |some r=>some r
   |none=>anIndexAddrA tab Γ G nx no t x i
 |.index t x i=>anIndex tab Γ G nx no t x i
 |.extract x i=>anExtract Γ G nx no x i
 |.makeMap t r=>anMakeMap tab G nx no t r
 |.lookup t m x ok=>anLookup tab Γ G nx no t m x ok
 |.mapUpdate t m x y=>anMapUpdate tab Γ G nx no t m x y
 |.insert t m x y=>anMapUpdate tab Γ G nx no t m x y
 | .call c => match c.callee with
   |.builtin b=>anBuiltin tab Γ G nx no b c.args.toList c.argTypes.toList
   |.value f=>anCallV tab sigs Γ G nx no f c.args
   |_=>none
 |_=>none
def FnOk (P:Program)(f:FuncId):Prop:=∃fn,P.funcs[f]? = some fn/\(fn.name == "runtime.NumGoroutine")=false/\fn.body.isNone=false
def CallOk (P:Program)(tab:Tab)(sigs:List Sig)(i:Nat)(ds outs:List T):Prop :=
 ∃S,sigs[i]? = some S/\FnOk P S.f/\Contract P tab S ds outs
section
variable {tab:Tab}{Γ:Gam}{ρ ρ':Env}{tm:Array Value}{w w':World}{C C1 Cx:Ctx}{kn kn':Kn}{Wr:CS}{w0:World}{P:Program}{G:Grd}{nx no nb:Nat}{obs:Obs}{S:Sig}{sigs:List Sig}
theorem Done.move{o:Oper}{a:Act}{v:Value}{Q:Value->World->Prop}(h1:(execOp a.eval o).run P w = .ok (.value v) w)(h2:Q v w):Done P o a w Q :=
 Yield.done ⟨v,w,h1,h2⟩
theorem zdg (hT:TabOk P tab)(h:Rel tab Γ ρ tm w C kn Wr w0)(hG:holdsG ρ G){f:FuncId}{xs:List S1}{args:Array Value}
 (hsz:args.size=xs.length) (harg:∀(j:Nat) x,xs[j]? = some x->∃v,args[j]? = some v/\S1Rel tab C kn.o ρ x v) :
 ∀ (l : List Sig) (i : Nat) {r : Res}, (∀ (j : Nat) S, l[j]? = some S -> sigs[i + j]? = some S) -> trySigs tab Γ G nx no f xs l i = some r -> HoldsS (CallOk P tab sigs) ρ r.sis ->
   (∀o,no<=o->o<r.no->¬kn.o o)->(∀x,nx<=x->x<r.nx->¬kn.v x) ->
   FnOk P f/\Calls P f args w fun e w'=>∃v,e = .returned v/\Post tab Γ ρ tm C kn Wr w0 nx no r v w'
 |[],i,r,_,hr,_,_,_=>by simp[trySigs]at hr
 | S :: l, i, r, hl, hr, hS, hfo, hfx => by
   simp only[trySigs]at hr
   have hrest:∀(j:Nat) S',l[j]? = some S'->sigs[i+1+j]? = some S':=fun j S' hj=>by
    have:=hl (j+1) S' (by simpa using hj)
    rw[show i+1+j=i+(j+1) by omega];exact this
   split at hr
   · rename_i x hx
     cases hr
     exact zdg hT h hG hsz harg l (i+1) hrest hx hS hfo hfx
   · split at hr
     case isFalse=>cases hr
     rename_i hf
     have hf:=Nat.eq_of_beq_eq_true hf
     have hx:=hr
     have hSi:sigs[i]? = some S:=hl 0 S rfl
     subst hf
     have hI:∀ds outs,CallOk P tab sigs i ds outs->FnOk P S.f/\Contract P tab S ds outs:=by
      rintro ds outs ⟨S',h1,h2,h3⟩
      rw[hSi]at h1;cases h1
      exact⟨h2,h3⟩
     refine⟨?_,zgB hT h hG hx (fun ds outs hh=>(hI ds outs hh).2) hS hfo hfx hsz harg⟩
     -- the call's step names the instance
     unfold anCall at hx
     split at hx
     · split at hx
       · split at hx
         · cases hx
           obtain⟨outs,hIo,_⟩:=hS _ (List.mem_singleton.2 rfl) hG
           exact (hI _ _ hIo).1
         ·cases hx
       ·cases hx
     ·cases hx
theorem zgd (hT:TabOk P tab)(h:Rel tab Γ ρ tm w C kn Wr w0)(hG:holdsG ρ G){f:Operand}{args:Array Operand}{r:Res}(hr:anCallV tab sigs Γ G nx no f args=some r)(hS:HoldsS (CallOk P tab sigs) ρ r.sis)
 (hfo:∀o,no<=o->o<r.no->¬kn.o o) (hfx:∀x,nx<=x->x<r.nx->¬kn.v x) {ds:List Deferred} {ts:Array TypeId}
 {dst:Option Tmp} {ty:TypeId} {pos:String} {aft:Array Edge} {gd:Option (Nat × Bool)} :
 Done P ⟨dst,.call { callee:=.value f,args:=args,argTypes:=ts },ty,pos,aft,gd⟩ ⟨tm,ds⟩ w fun v w'=>Post tab Γ ρ tm C kn Wr w0 nx no r v w':=by
 unfold anCallV at hr
 split at hr
 case h_2=>cases hr
 rename_i fid caps xs hf hxs
 obtain⟨⟨vs,hv,hvs,hcap⟩,_⟩:=zab h hG hf (ds:=ds)
 obtain⟨l1,l2⟩:=zaI hxs
 have hsz:(args.map (Act.eval ⟨tm,ds⟩)++vs).size=(xs++caps.map fun o=>S1.one (.pb o 0)).length:=by
  simp only[Array.size_append,Array.size_map,List.length_append,List.length_map,l1,Array.length_toList,hvs]
 obtain⟨⟨fn,k1,k2,k3⟩,hc⟩:=zdg (sigs:=sigs) (args:=args.map (Act.eval ⟨tm,ds⟩)++vs) hT h hG hsz (fun j x hj=>by
  by_cases hlt:j<xs.length
  · rw[List.getElem?_append_left hlt]at hj
    obtain⟨y,h1,h2⟩:=l2 j x hj
    unfold argS1 at h2
    split at h2
    · rename_i x' hx'
      cases h2
      refine⟨Act.eval ⟨tm,ds⟩ y,?_,zab h hG hx'⟩
      have:args[j]? = some y:=by simpa using h1
      rw[Array.getElem?_append_left (by simp[l1]at hlt ⊢;exact hlt),Array.getElem?_map,this];rfl
    ·cases h2
  · rw[List.getElem?_append_right (by omega),List.getElem?_map]at hj
    cases hc:caps[j-xs.length]? with
    |none=>rw[hc]at hj;cases hj
    | some o =>
      rw[hc]at hj;cases hj
      obtain⟨q1,b,base,q2,q3⟩:=hcap _ o hc
      refine⟨_,?_,⟨⟨q1,b,base,q2,rfl⟩,fun cs=>by simp⟩⟩
      have hl:(args.map (Act.eval ⟨tm,ds⟩)).size=xs.length:=by simp[l1]
      rw[Array.getElem?_append_right (by omega),hl,q3];rfl) sigs 0 (fun j S hj=>by rw[Nat.zero_add];exact hj) hr hS hfo hfx
 intro next QQ hk
 unfold Oper.wp
 have:(execOp (Act.eval ⟨tm,ds⟩) ⟨dst,.call { callee:=.value f,args:=args,argTypes:=ts },ty,pos,aft,gd⟩).run P w = .ok (.enter fid (args.map (Act.eval ⟨tm,ds⟩)++vs)) w:=by
  simp only[execOp,resolve,hv,Deferred.ofValue,Sem.run_bind,Sem.run_pure,Result.andThen_ok,invoke,callFunc,run_program,k1,k2,k3,Bool.false_eq_true,if_false,Array.empty_append]
 rw[this,Oper.upon_enter]
 refine Calls.mono hc ?_
 rintro e w' ⟨v,rfl,hp⟩
 exact hk v w' hp
theorem zix (hT : TabOk P tab) (h : Rel tab Γ ρ tm w C kn Wr w0) (hG : holdsG ρ G) {op : Op} {r : Res} (hr : anOp tab sigs Γ G nx no op = some r) (hS : HoldsS (CallOk P tab sigs) ρ r.sis)
 (hfo:∀o,no<=o->o<r.no->¬kn.o o) (hfx:∀x,nx<=x->x<r.nx->¬kn.v x) {ds:List Deferred}
 {dst:Option Tmp} {ty:TypeId} {pos:String} {aft:Array Edge} {gd:Option (Nat × Bool)} :
 Done P ⟨dst,op,ty,pos,aft,gd⟩ ⟨tm,ds⟩ w fun v w'=>Post tab Γ ρ tm C kn Wr w0 nx no r v w':=by
 unfold anOp at hr
 split at hr
 ·exact Done.move (by simp only[execOp,Sem.run_pure];rfl) (zdU h hG hr)
 ·exact Done.move (by simp only[execOp,Sem.run_pure];rfl) (zdU h hG hr)
 · rename_i c a b
   obtain⟨t,h1,h2⟩:=zgP h hG hr hS (ds:=ds)
   refine Done.move ?_ h2
   simp only[execOp,h1,asBool,Sem.run_bind,Sem.run_pure,Result.andThen_ok]
 · split at hr
   · rename_i r' hr'
     cases hr
     exact Yield.done (zfi hT h hG hr' hS hfo hfx)
   ·exact Yield.done (zgl hT h hr hfo)
 ·exact Yield.done (zhl h hG hr hfo)
 · split at hr
   · rename_i r' hr'
     cases hr
     exact Yield.done (zgm hT h hG hr')
   ·exact Yield.done (zfj hT h hr)
 ·exact Yield.done (zcN hT h hG hr hS hfo hfx)
 · split at hr
   ·rename_i r1 hr1;cases hr;exact Yield.done (zgv hT h hG hr1 hS hfo)
   · split at hr
     ·rename_i r2 hr2;cases hr;exact Yield.done (zgh hT h hr2)
     ·exact Yield.done (zgp hT h hG hr hS)
 · split at hr
   · rename_i r' hr'
     cases hr
     exact zfP hT h hG hr' hS hfx
   ·exact zeY hT h hG hr hS hfx
 ·exact Yield.done (zh9 h hG hr)
 · split at hr
   ·rename_i r1 hr1;cases hr;exact Yield.done (zhG hT h hG hr1 hS)
   · split at hr
     ·rename_i r2 hr2;cases hr;exact Yield.done (zgO hT h hG hr2)
     ·exact Yield.done (zgX hT h hG hr)
 ·exact Yield.done (zi3 h hG hr)
 · split at hr
   · rename_i r' hr'
     cases hr
     exact Yield.done (zgz hT h hG hr')
   · split at hr
     ·rename_i r2 hr2;cases hr;exact Yield.done (zfM hT h hG hr2 hS)
     ·exact Yield.done (zgg hT h hG hr hS hfo)
 ·exact Yield.done (zgK h hG hr)
 ·exact Yield.done (zd2 hT h hG hr hS hfo hfx)
 ·exact Yield.done (zgj hT h hG hr hS)
 ·exact Yield.done (zd1 hT h hG hr)
 ·exact Yield.done (zgi hT h hG hr)
 · split at hr
   · rename_i r' hr'
     cases hr
     exact Yield.done (zdy hT h hG hr' hS)
   ·exact Yield.done (zdj hT h hG hr hS)
 ·exact Yield.done (zfY hT h hG hr hS)
 ·exact Yield.done (zez h hG hr)
 ·exact Yield.done (zeC h hr hfo)
 ·exact Yield.done (zfe hT h hG hr)
 ·exact zbB hT h hG hr hS (.inl rfl)
 ·exact zbB hT h hG hr hS (.inr rfl)
 · rename_i c
   obtain⟨cal,args,ts⟩:=c
   simp only at hr
   split at hr
   · rename_i b
     unfold anBuiltin at hr
     split at hr
     · rename_i x t hx ht
       have hx:args = #[x]:=by apply Array.ext';simpa using hx
       have ht:ts = #[t]:=by apply Array.ext';simpa using ht
       subst hx;subst ht
       exact Yield.done (zhC hT h hG hr)
     · rename_i x y t t2 hx ht
       have hx:args = #[x,y]:=by apply Array.ext';simpa using hx
       have ht:ts = #[t,t2]:=by apply Array.ext';simpa using ht
       subst hx;subst ht
       split at hr
       · rename_i r' hr'
         cases hr
         exact Yield.done (zeU hT h hG hr' hS hfo hfx)
       · split at hr
         · rename_i r' hr'
           cases hr
           exact Yield.done (zeO hT h hG hr' hS hfo hfx)
         · split at hr
           · rename_i r' hr'
             cases hr
             exact Yield.done (zfd hT h hG hr' hS hfo hfx)
           · split at hr
             · rename_i r' hr'
               cases hr
               exact Yield.done (ze3 hT h hG hr' hS hfo hfx)
             ·exact Yield.done (zeL hT h hG hr hS hfo hfx)
     · rename_i x y hx
       have hx:args = #[x,y]:=by apply Array.ext';simpa using hx
       subst hx
       exact Yield.done (zeM (mx:=true) h hG hr)
     · rename_i x y hx
       have hx:args = #[x,y]:=by apply Array.ext';simpa using hx
       subst hx
       exact Yield.done (zeM (mx:=false) h hG hr)
     · rename_i x t hx ht
       have hx:args = #[x]:=by apply Array.ext';simpa using hx
       have ht:ts = #[t]:=by apply Array.ext';simpa using ht
       subst hx;subst ht
       exact Yield.done (zfI hT h hG hr hS hfx)
     ·cases hr
   ·exact zgd hT h hG hr hS hfo hfx
   ·cases hr
 ·cases hr
end
end Gp
namespace Gp
open Go
def gBnd (n:Nat)(g:Grd):Bool:=g.all fun x=>x.1.bnd n
def Leaf.bnd (n:Nat):Leaf->Bool
 |.int _ e=>e.bnd n
 |.bool e=>e.bnd n
 |.str e=>e.bnd n
 |.sl _ _ off len=>off.bnd n&&len.bnd n
 |.pe _ _ i _=>i.bnd n
 |_=>true
def S1.bnd (n:Nat):S1->Bool
 |.one l=>l.bnd n
 |.agg ls=>ls.all (Leaf.bnd n)
def SV.bnd (n:Nat):SV->Bool
 |.s x=>x.bnd n
 |.tup xs=>xs.all (S1.bnd n)
def Obj.bnd (n:Nat):Obj->Bool
 |.row _ _ d=>d.bnd n
 |.view _ pd i _ _ d=>pd.bnd n&&i.bnd n&&d.bnd n
 |.box _ cells=>cells.all (Leaf.bnd n)
 |.map _ _ d=>d.bnd n
def Gam.bnd (n:Nat)(Γ:Gam):Bool:=Γ.tm.all (fun x=>gBnd n x.2.1&&x.2.2.bnd n)&&Γ.ob.all (fun x=>gBnd n x.2.1&&x.2.2.bnd n)
def SI.ssa (n:Nat):SI->Option Nat
 |.set x e=>if Nat.beq x n&&e.bnd n then some (n+1) else none
 |.mov x es=>if Nat.beq x n&&es.all (Exp.bnd n) then some (n+es.length) else none
 |.chk e=>if e.bnd n then some n else none
 |.call _ args x k=>if Nat.beq x n&&args.all (Exp.bnd n) then some (n+k) else none
def ssaL:Nat->List (Grd × SI)->Option Nat
 |n,[]=>some n
 | n, (g, s) :: l => if gBnd n g then match s.ssa n with
   |some m=>ssaL m l
   |none=>none
   else none
section
variable {tab:Tab}{Γ:Gam}{ρ ρ':Env}{tm:Array Value}{w w':World}{C C1 Cx:Ctx}{kn kn':Kn}{Wr:CS}{w0:World}{P:Program}{G:Grd}{nx no nb:Nat}{obs:Obs}{S:Sig}{sigs:List Sig}
theorem zaO {n:Nat}(h:Agree n ρ ρ'){g:Grd}(hb:gBnd n g=true):holdsG ρ' g↔holdsG ρ g:=by
 simp only[gBnd,List.all_eq_true]at hb
 rw[zck,zck]
 exact⟨fun k x hx=>by rw[<- zai h _ (hb x hx)];exact k x hx,fun k x hx=>by rw[zai h _ (hb x hx)];exact k x hx⟩
theorem Leaf.agree{n:Nat}(h:Agree n ρ ρ'){l:Leaf}(hb:l.bnd n=true){k:Nat->Prop}{v:Value}(hl:LeafRel tab C k ρ l v):LeafRel tab C k ρ' l v:=by
 cases l with
 |dead=>trivial
 |int kk e=>obtain⟨m,h1,h2⟩:=hl;exact⟨m,by rw[zai h e hb];exact h1,h2⟩
 |bool e=>obtain⟨m,h1,h2⟩:=hl;exact⟨m,by rw[zai h e hb];exact h1,h2⟩
 |str e=>obtain⟨m,h1,h2⟩:=hl;exact⟨m,by rw[zai h e hb];exact h1,h2⟩
 | sl o et off len =>
   simp only[Leaf.bnd,Bool.and_eq_true]at hb
   obtain⟨hk,m,n,a,c,h1,h2,h3⟩:=hl
   exact⟨hk,m,n,a,c,by rw[zai h _ hb.1];exact h1,by rw[zai h _ hb.2];exact h2,h3⟩
 |slw=>exact hl
 |nil=>exact hl
 |pb=>exact hl
 | pe o et i j =>
   obtain⟨hk,m,b,base,h1,h2⟩:=hl
   exact⟨hk,m,b,base,by rw[zai h i hb];exact h1,h2⟩
 |fn=>exact hl
 |mp=>exact hl
theorem S1.agree{n:Nat}(h:Agree n ρ ρ'){x:S1}(hb:x.bnd n=true){k:Nat->Prop}{v:Value}(hl:S1Rel tab C k ρ x v):S1Rel tab C k ρ' x v:=by
 cases x with
 |one l=>exact⟨Leaf.agree h hb hl.1,hl.2⟩
 | agg ls =>
   simp only[S1.bnd,List.all_eq_true]at hb
   obtain⟨vs,h1,h2,h3⟩:=hl
   refine⟨vs,h1,h2,fun i l hi=>?_⟩
   obtain⟨u,h4,h5⟩:=h3 i l hi
   exact⟨u,h4,Leaf.agree h (hb l (List.mem_of_getElem? hi)) h5⟩
theorem SV.agree{n:Nat}(h:Agree n ρ ρ'){x:SV}(hb:x.bnd n=true){k:Nat->Prop}{v:Value}(hl:SVRel tab C k ρ x v):SVRel tab C k ρ' x v:=by
 cases x with
 |s x=>exact S1.agree h hb hl
 | tup xs =>
   simp only[SV.bnd,List.all_eq_true]at hb
   obtain⟨vs,h1,h2,h3⟩:=hl
   refine⟨vs,h1,h2,fun i l hi=>?_⟩
   obtain⟨u,h4,h5⟩:=h3 i l hi
   exact⟨u,h4,S1.agree h (hb l (List.mem_of_getElem? hi)) h5⟩
theorem Gam.bnd_tm{n:Nat}(hb:Γ.bnd n=true){t:Nat}{g:Grd}{sv:SV}(ht:Γ.get t=some (g,sv)):gBnd n g=true/\sv.bnd n=true:=by
 simp only[Gam.bnd,Bool.and_eq_true,List.all_eq_true]at hb
 have:=hb.1 _ (zam ht)
 simpa using this
theorem Gam.bnd_ob{n:Nat}(hb:Γ.bnd n=true){o:Nat}{g:Grd}{ob:Obj}(ht:Γ.obj o=some (g,ob)):gBnd n g=true/\ob.bnd n=true:=by
 simp only[Gam.bnd,Bool.and_eq_true,List.all_eq_true]at hb
 have:=hb.2 _ (zam ht)
 simpa using this
theorem Rel.agree(h:Rel tab Γ ρ tm w C kn Wr w0){n:Nat}(ha:Agree n ρ ρ')(hb:Γ.bnd n=true):Rel tab Γ ρ' tm w C kn Wr w0 where
 tms t g sv ht:=by
  obtain⟨h1,h2⟩:=h.tms t g sv ht
  obtain⟨b1,b2⟩:=Gam.bnd_tm hb ht
  rw[zaO ha b1]
  exact⟨fun hg=>SV.agree ha b2 (h1 hg),h2⟩
 obs o g ob ho:=by
  obtain⟨h1,h2,h3⟩:=h.obs o g ob ho
  obtain⟨b1,b2⟩:=Gam.bnd_ob hb ho
  rw[zaO ha b1]
  refine⟨h1,h2,fun hg=>?_⟩
  have hr:=h3 hg
  cases ob with
  | row dp et d =>
    obtain⟨rows,r1,r2⟩:=hr
    exact⟨rows,by rw[zai ha d b2];exact r1,r2⟩
  | view par pd i j et d =>
    simp only[Obj.bnd,Bool.and_eq_true]at b2
    intro gp pet hp hgp
    rw[zaO ha (Gam.bnd_ob hb hp).1]at hgp
    obtain⟨m,b,base,rows,a1,a2,a3,a4,a5,a6⟩:=hr gp pet hp hgp
    exact⟨m,b,base,rows,by rw[zai ha _ b2.1.2];exact a1,a2,a3,by rw[zai ha _ b2.1.1];exact a4,a5.imp id (fun⟨rs,c1,c2⟩=>⟨rs,by rw[zai ha _ b2.2];exact c1,c2⟩),a6⟩
  | map k v d =>
    obtain⟨r,es,cl,ents,m1,m2,m3,m4,m5⟩:=hr
    exact⟨r,es,cl,ents,m1,m2,m3,by rw[zai ha d b2];exact m4,m5⟩
  | box rw' cells =>
    simp only[Obj.bnd,List.all_eq_true]at b2
    obtain⟨b,base,r1,r2,r3,r4⟩:=hr
    refine⟨b,base,r1,r2,fun j l hj=>?_,r4⟩
    obtain⟨v,v1,v2⟩:=r3 j l hj
    exact⟨v,v1,Leaf.agree ha (b2 l (List.mem_of_getElem? hj)) v2⟩
 dis o o' g g' ob ob' ho ho' hg hg':=by
  rw[zaO ha (Gam.bnd_ob hb ho).1]at hg
  rw[zaO ha (Gam.bnd_ob hb ho').1]at hg'
  exact h.dis o o' g g' ob ob' ho ho' hg hg'
 own o g ob ho hg:=by
  rw[zaO ha (Gam.bnd_ob hb ho).1]at hg
  exact h.own o g ob ho hg
 frm:=h.frm
theorem Rel.congr{Γ':Gam}(h:Rel tab Γ ρ tm w C kn Wr w0)(h1:∀t,Γ'.get t=Γ.get t)(h2:∀o,Γ'.obj o=Γ.obj o):Rel tab Γ' ρ tm w C kn Wr w0 where
 tms t g sv ht:=h.tms t g sv (by rw[<- h1];exact ht)
 obs o g ob ho:=by
  rw[h2]at ho
  obtain⟨a1,a2,a3⟩:=h.obs o g ob ho
  exact⟨a1,a2,fun hg=>(a3 hg).congrObj fun par pd i j et d _ gp pet hp hgp=>⟨gp,by rw[<- h2];exact hp,hgp⟩⟩
 dis o o' g g' ob ob' ho ho':=h.dis o o' g g' ob ob' (by rw[<- h2];exact ho) (by rw[<- h2];exact ho')
 own o g ob ho:=h.own o g ob (by rw[<- h2];exact ho)
 frm:=h.frm
def lastOf:List (Nat × Option (Grd × Obj))->Nat->Option (Option (Grd × Obj))
 |[],_=>none
 | (k, x) :: l, o => match lastOf l o with
   |some y=>some y
   |none=>if Nat.beq k o then some x else none
theorem za0:∀(l:List (Nat × Option (Grd × Obj))) (Γ:Gam) (o:Nat),(Γ.appOb l).obj o=match lastOf l o with|some x=>x|none=>Γ.obj o
 |[],Γ,o=>rfl
 | (k, some y) :: l, Γ, o => by
   simp only[Gam.appOb,lastOf]
   rw[za0 l]
   cases h:lastOf l o with
   |some z=>rfl
   | none =>
     by_cases e:k=o
     ·subst e;simp only[Nat.beq_refl,if_true];exact Gam.obj_setOb_self ..
     ·rw[if_neg (by simpa using e)];exact Gam.obj_setOb_ne _ _ e
 | (k, none) :: l, Γ, o => by
   simp only[Gam.appOb,lastOf]
   rw[za0 l]
   cases h:lastOf l o with
   |some z=>rfl
   | none =>
     by_cases e:k=o
     ·subst e;simp only[Nat.beq_refl,if_true];exact Gam.obj_delOb_self ..
     ·rw[if_neg (by simpa using e)];exact Gam.obj_delOb_ne _ e
def canonLeaf(Γ:Gam)(G:Grd):Leaf->Leaf
 | .sl o et off len => match rowOf Γ G o with
   |some (_,et',d,_)=>if et'=et&&isWhole d off len then .slw o et else .sl o et off len
   |none=>.sl o et off len
 |l=>l
def canonS1 (Γ:Gam)(G:Grd):S1->S1
 |.one l=>.one (canonLeaf Γ G l)
 |.agg ls=>.agg (ls.map (canonLeaf Γ G))
def canonSV (Γ:Gam)(G:Grd):SV->SV
 |.s x=>.s (canonS1 Γ G x)
 |.tup xs=>.tup (xs.map (canonS1 Γ G))
def canonOb (Γ:Gam):Option (Grd × Obj)->Option (Grd × Obj)
 |some (g,.box rw cells)=>some (g,.box rw (cells.map (canonLeaf Γ g)))
 |x=>x
def canonR (Γ:Gam)(G:Grd)(r:Res):Res :=
 { r with sv:=canonSV (Γ.appOb r.ob) G r.sv,ob:=r.ob.map fun x=>(x.1,canonOb (Γ.appOb r.ob) x.2) }
theorem zbu (h:Rel tab Γ ρ tm w C kn Wr w0)(hG:holdsG ρ G){l:Leaf}{v:Value}(hl:LeafRel tab C kn.o ρ l v):LeafRel tab C kn.o ρ (canonLeaf Γ G l) v:=by
 unfold canonLeaf
 split
 · rename_i o et off len
   split
   · rename_i dp et' d vw hrow
     split
     · rename_i hc
       simp only[Bool.and_eq_true,decide_eq_true_eq]at hc
       obtain⟨rfl,hw⟩:=hc
       simp only[isWhole,Bool.and_eq_true,beq_iff_eq]at hw
       obtain⟨rfl,rfl⟩:=hw
       obtain⟨rows,F',root,gr,obr,r1,r2,_⟩:=zaF h hG hrow
       obtain⟨x1,x2,x3⟩:=r2.header
       obtain⟨hk,m,n,a,c,l1,l2,l3,l4,l5,l6,l7⟩:=hl
       have hm:m=0:=by have:=T.int.inj l1;omega
       subst hm
       simp only[den,U.den,r1,T.len]at l2
       have hn:=T.int.inj l2
       refine⟨hk,a,by rw[l3];congr 1<;>omega,?_⟩
       rcases l7 with l7|⟨b,base,l7,l8⟩
       ·exact .inl (by omega)
       ·exact .inr ⟨b,base,l7,by rw[l8];simp⟩
     ·exact hl
   ·exact hl
 ·exact hl
theorem zcG (h:Rel tab Γ ρ tm w C kn Wr w0)(hG:holdsG ρ G){x:S1}{v:Value}(hl:S1Rel tab C kn.o ρ x v):S1Rel tab C kn.o ρ (canonS1 Γ G x) v:=by
 cases x with
 |one l=>exact⟨zbu h hG hl.1,hl.2⟩
 | agg ls =>
   obtain⟨vs,h1,h2,h3⟩:=hl
   refine⟨vs,h1,by simpa using h2,fun i l hi=>?_⟩
   rw[List.getElem?_map]at hi
   cases hx:ls[i]? with
   |none=>rw[hx]at hi;cases hi
   | some l0 =>
     rw[hx]at hi;cases hi
     obtain⟨u,h4,h5⟩:=h3 i l0 hx
     exact⟨u,h4,zbu h hG h5⟩
theorem zgn (h:Rel tab Γ ρ tm w C kn Wr w0)(hG:holdsG ρ G){x:SV}{v:Value}(hl:SVRel tab C kn.o ρ x v):SVRel tab C kn.o ρ (canonSV Γ G x) v:=by
 cases x with
 |s x=>exact zcG h hG hl
 | tup xs =>
   obtain⟨vs,h1,h2,h3⟩:=hl
   refine⟨vs,h1,by simpa using h2,fun i l hi=>?_⟩
   rw[List.getElem?_map]at hi
   cases hx:xs[i]? with
   |none=>rw[hx]at hi;cases hi
   | some l0 =>
     rw[hx]at hi;cases hi
     obtain⟨u,h4,h5⟩:=h3 i l0 hx
     exact⟨u,h4,zcG h hG h5⟩
theorem Rel.mapBox{Γ':Gam}(h:Rel tab Γ ρ tm w C kn Wr w0)(h1:∀t,Γ'.get t=Γ.get t)
 (h2:∀o,Γ'.obj o=Γ.obj o\/∃g rw cells,Γ.obj o=some (g,.box rw cells)/\Γ'.obj o=some (g,.box rw (cells.map (canonLeaf Γ g)))):Rel tab Γ' ρ tm w C kn Wr w0:=by
 have hb:∀o g ob,Γ'.obj o=some (g,ob)->∃ob0,Γ.obj o=some (g,ob0)/\ob0.owned=ob.owned/\ob0.isView=ob.isView/\(ob0=ob\/∃rw cells,ob0 = .box rw cells/\ob = .box rw (cells.map (canonLeaf Γ g))):=by
  intro o g ob ho
  rcases h2 o with h2|⟨g',rw',cells,q1,q2⟩
  ·exact⟨ob,by rw[<- h2];exact ho,rfl,rfl,.inl rfl⟩
  · rw[ho]at q2;cases q2
    exact⟨_,q1,rfl,rfl,.inr ⟨_,_,rfl,rfl⟩⟩
 exact {
  tms:=fun t g sv ht=>h.tms t g sv (by rw[<- h1];exact ht)
  obs:=fun o g ob ho=>by
   obtain⟨ob0,q1,_,_,q4⟩:=hb o g ob ho
   obtain⟨a1,a2,a3⟩:=h.obs o g ob0 q1
   rcases q4 with rfl|⟨rw',cells,rfl,rfl⟩
   · refine⟨a1,a2,fun hg=>(a3 hg).congrObj fun par pd i j et d _ gp pet hp hgp=>?_⟩
     obtain⟨obp,p1,_,_,p4⟩:=hb par gp _ hp
     rcases p4 with rfl|⟨_,_,_,p5⟩
     ·exact⟨gp,p1,hgp⟩
     ·cases p5
   · refine⟨a1,trivial,fun hg=>?_⟩
     obtain⟨b,base,r1,r2,r3,r4⟩:=a3 hg
     refine⟨b,base,r1,by rw[r2,List.length_map],fun j l hj=>?_,fun e x hx=>r4 e x (by simpa using hx)⟩
     rw[List.getElem?_map]at hj
     cases hx:cells[j]? with
     |none=>rw[hx]at hj;cases hj
     | some l0 =>
       rw[hx]at hj;cases hj
       obtain⟨v,v1,v2⟩:=r3 j l0 hx
       exact⟨v,v1,zbu h hg v2⟩
  dis:=fun o o' g g' ob ob' ho ho' hg hg' hne hown hv=>by
   obtain⟨ob0,q1,q2,q3,_⟩:=hb o g ob ho
   obtain⟨ob1,p1,p2,p3,_⟩:=hb o' g' ob' ho'
   exact h.dis o o' g g' ob0 ob1 q1 p1 hg hg' hne (q2.trans hown) (p3.trans hv)
  own:=fun o g ob ho hg hown=>by
   obtain⟨ob0,q1,q2,_,_⟩:=hb o g ob ho
   exact h.own o g ob0 q1 hg (q2.trans hown)
  frm:=h.frm }
theorem zfu (f:Option (Grd × Obj)->Option (Grd × Obj)):∀(l:List (Nat × Option (Grd × Obj))) (o:Nat),lastOf (l.map fun x=>(x.1,f x.2)) o=(lastOf l o).map f
 |[],_=>rfl
 | (k, x) :: l, o => by
   simp only[List.map_cons,lastOf]
   rw[zfu f l o]
   cases lastOf l o with
   |some y=>rfl
   | none =>
     simp only[Option.map_none]
     split<;>rfl
theorem Post.canon{nx no:Nat}{r:Res}{v:Value}(hG:holdsG ρ G)(h:Post tab Γ ρ tm C kn Wr w0 nx no r v w):Post tab Γ ρ tm C kn Wr w0 nx no (canonR Γ G r) v w:=by
 obtain⟨C',kn',h1,h2,h3,h4,h5⟩:=h
 refine⟨C',kn',h1.mapBox (fun t=>by rw[zar,zar]) fun o=>?_,zgn h1 hG h2,h3,h4,h5⟩
 have hE:(Γ.appOb (canonR Γ G r).ob).obj o=match (lastOf r.ob o).map (canonOb (Γ.appOb r.ob)) with|some x=>x|none=>Γ.obj o:=by
  show (Γ.appOb (r.ob.map fun x=>(x.1,canonOb (Γ.appOb r.ob) x.2))).obj o=_
  rw[za0,zfu]
 rw[hE]
 have hx:=za0 r.ob Γ o
 cases hl:lastOf r.ob o with
 |none=>rw[hl]at hx;exact .inl hx.symm
 | some y =>
   rw[hl]at hx
   simp only[Option.map_some]at hx ⊢
   cases y with
   |none=>exact .inl hx.symm
   | some z =>
     obtain⟨g,ob⟩:=z
     cases ob with
     |row=>exact .inl hx.symm
     |view=>exact .inl hx.symm
     |map=>exact .inl hx.symm
     |box rw' cells=>exact .inr ⟨g,rw',cells,hx,rfl⟩
theorem Rel.remap{Γ':Gam}(h:Rel tab Γ ρ tm w C kn Wr w0)(hk:kn.le kn')(h1:∀t,Γ'.get t=Γ.get t)
 (h2:∀o g ob,Γ'.obj o=some (g,ob)->kn'.o o/\ob.verOk kn'/\(holdsG ρ g->∃g0 ob0,Γ.obj o=some (g0,ob0)/\holdsG ρ g0/\ob0.owned=ob.owned/\ob0.isView=ob.isView /\
  (ob.isView=true->ob=ob0)/\(ob.isView=false->ObRel tab C kn.o ρ noGam w o ob0->ObRel tab C kn.o ρ noGam w o ob)))
 (h3:∀o g pet x,Γ'.obj o=some (g,.row true pet (.var x))->holdsG ρ g->kn.v x->∃g0,Γ.obj o=some (g0,.row true pet (.var x))/\holdsG ρ g0):Rel tab Γ' ρ tm w C kn' Wr w0 where
 tms t g sv ht:=⟨fun hg=>((h.tms t g sv (by rw[<- h1];exact ht)).1 hg).mono hk.1 fun _ _=>⟨rfl,rfl,rfl⟩,(h.tms t g sv (by rw[<- h1];exact ht)).2⟩
 obs o g ob ho:=by
  obtain⟨a1,a2,a3⟩:=h2 o g ob ho
  refine⟨a1,a2,fun hg=>?_⟩
  obtain⟨g0,ob0,q1,q2,q3,q4,q5,q6⟩:=a3 hg
  obtain⟨b1,b2,b3⟩:=h.obs o g0 ob0 q1
  cases hv:ob.isView with
  | false =>
    have hr:ObRel tab C kn.o ρ noGam w o ob0:=(b3 q2).congrObj fun par pd i j et d he=>by rw[he]at q4;rw[hv]at q4;cases q4
    exact ((q6 hv hr).mono hk.1 b1 (fun _ _=>⟨rfl,rfl,rfl⟩) rfl fun par pd i j et d he=>by rw[he]at hv;cases hv).congrObj fun par pd i j et d he=>by rw[he]at hv;cases hv
  | true =>
    have:=q5 hv
    subst this
    refine ((b3 q2).mono hk.1 b1 (fun _ _=>⟨rfl,rfl,rfl⟩) rfl fun par pd i j et d _ gp pet hp=>(h.obs par gp _ hp).1).congrObj fun par pd i j et d he gp pet hp hgp=>?_
    rw[he]at b2
    obtain⟨_,x,hx1,hx2⟩:=b2
    rw[hx1]at hp ⊢
    exact h3 par gp pet x hp hgp hx2
 dis o o' g g' ob ob' ho ho' hg hg' hne hown hv:=by
  obtain⟨g0,ob0,q1,q2,q3,q4,_⟩:=(h2 o g ob ho).2.2 hg
  obtain⟨g1,ob1,p1,p2,p3,p4,_⟩:=(h2 o' g' ob' ho').2.2 hg'
  exact h.dis o o' g0 g1 ob0 ob1 q1 p1 q2 p2 hne (q3.trans hown) (p4.trans hv)
 own o g ob ho hg hown:=by
  obtain⟨g0,ob0,q1,q2,q3,_⟩:=(h2 o g ob ho).2.2 hg
  exact h.own o g0 ob0 q1 q2 (q3.trans hown)
 frm:=h.frm
def iteG:Grd->Exp->Exp->Exp
 |[],n,_=>n
 |(e,b)::g,n,o=>iteG g (if b then .tri .ite e n o else .tri .ite e o n) o
def BoolG (ρ:Env):Grd->Prop
 |[]=>True
 |(e,_)::g=>(holdsG ρ g->∃b,den ρ e = .bool b)/\BoolG ρ g
theorem zci:∀{G:Grd} {n o:Exp},holdsG ρ G->den ρ (iteG G n o)=den ρ n
 |[],_,_,_=>rfl
 | (e, b) :: g, n, o, h => by
   simp only[iteG]
   rw[zci h.2]
   cases b with
   |true=>simp only[if_true,den,Tr.den,h.1,T.ite]
   |false=>simp only[Bool.false_eq_true,if_false,den,Tr.den,h.1,T.ite]
theorem zew:∀{G:Grd} {n o:Exp},¬holdsG ρ G->BoolG ρ G->den ρ (iteG G n o)=den ρ o
 |[],_,_,h,_=>absurd trivial h
 | (e, b) :: g, n, o, h, hb => by
   simp only[iteG]
   by_cases hg:holdsG ρ g
   · rw[zci hg]
     obtain⟨x,hx⟩:=hb.1 hg
     have hne:x≠b:=fun e'=>h ⟨by rw[hx,e'],hg⟩
     cases b with
     | true =>
       have:x=false:=by cases x<;>simp_all
       subst this
       simp only[if_true,den,Tr.den,hx,T.ite]
     | false =>
       have:x=true:=by cases x<;>simp_all
       subst this
       simp only[Bool.false_eq_true,if_false,den,Tr.den,hx,T.ite]
   ·exact zew hg hb.2
def boolTm (Γ:Gam)(e:Exp)(g:Grd):Bool:=Γ.tm.any fun p=>match p.2 with
 |(g',.s (.one (.bool e')))=>e'==e&&g'==g&&(match Γ.get p.1 with|some (g2,.s (.one (.bool e2)))=>e2==e&&g2==g|_=>false)
 |_=>false
def boolG (Γ:Gam):Grd->Bool
 |[]=>true
 |(e,_)::g=>boolTm Γ e g&&boolG Γ g
theorem zet (h:Rel tab Γ ρ tm w C kn Wr w0):∀{G:Grd},boolG Γ G=true->BoolG ρ G
 |[],_=>trivial
 | (e, b) :: g, hb => by
   simp only[boolG,Bool.and_eq_true]at hb
   refine⟨fun hg=>?_,zet h hb.2⟩
   have h1:=hb.1
   simp only[boolTm,List.any_eq_true]at h1
   obtain⟨p,_,hp⟩:=h1
   split at hp
   · simp only[Bool.and_eq_true]at hp
     obtain⟨_,hp⟩:=hp
     split at hp
     · rename_i g2 e2 hget
       simp only[Bool.and_eq_true,beq_iff_eq]at hp
       obtain⟨rfl,rfl⟩:=hp
       obtain⟨⟨x,hx,_⟩,_⟩:=(h.tms _ _ _ hget).1 hg
       exact⟨x,hx⟩
     ·cases hp
   ·cases hp
def mergeLeaf(G:Grd)(nx:Nat)(n o:Leaf):Leaf × List (Grd × SI) :=
 if n=o then (o,[]) else match n,o with
 |.int k a,.int k' b=>if k=k' then (.int k (.var nx),[([],.set nx (iteG G a b))]) else (.dead,[])
 |.bool a,.bool b=>(.bool (.var nx),[([],.set nx (iteG G a b))])
 |.str a,.str b=>(.str (.var nx),[([],.set nx (iteG G a b))])
 |_,_=>(.dead,[])
def mergeLeaves(G:Grd):Nat->List Leaf->List Leaf->Option (List Leaf × List (Grd × SI) × Nat)
 |nx,[],[]=>some ([],[],nx)
 | nx, n :: ns, o :: os => match mergeLeaf G nx n o with
   | (l, si) => match mergeLeaves G (nx + si.length) ns os with
     |some (ls,sis,nx')=>some (l::ls,si++sis,nx')
     |none=>none
 |_,_,_=>none
def mergeOb (G:Grd)(nx:Nat)(n o:Obj):Option (Obj × List (Grd × SI) × Nat) :=
 if n=o then some (o,[],nx) else match n,o with
 |.row true et a,.row true et' b=>if et=et' then some (.row true et (.var nx),[([],.set nx (iteG G a b))],nx+1) else none
 | .box true ns, .box true os => match mergeLeaves G nx ns os with
   |some (ls,sis,nx')=>some (.box true ls,sis,nx')
   |none=>none
 |_,_=>none
theorem zev {I:Nat->List T->List T->Prop}{nx:Nat}{n o l:Leaf}{si:List (Grd × SI)}(hm:mergeLeaf G nx n o=(l,si))(hS:HoldsS I ρ si){k:Nat->Prop}{v:Value} :
 (holdsG ρ G->LeafRel tab C k ρ n v->LeafRel tab C k ρ l v)/\(¬holdsG ρ G->BoolG ρ G->LeafRel tab C k ρ o v->LeafRel tab C k ρ l v):=by
 unfold mergeLeaf at hm
 split at hm
 ·rename_i h;subst h;cases hm;exact⟨fun _=>id,fun _ _=>id⟩
 · split at hm
   · split at hm
     · rename_i hk
       subst hk
       cases hm
       have hx:ρ nx=_:=hS _ (List.mem_singleton.2 rfl) trivial
       refine⟨fun hg hl=>?_,fun hg hb hl=>?_⟩
       · obtain⟨m,h1,h2⟩:=hl
         exact⟨m,by show ρ nx=_;rw[hx,zci hg];exact h1,h2⟩
       · obtain⟨m,h1,h2⟩:=hl
         exact⟨m,by show ρ nx=_;rw[hx,zew hg hb];exact h1,h2⟩
     ·cases hm;exact⟨fun _ _=>trivial,fun _ _ _=>trivial⟩
   · cases hm
     have hx:ρ nx=_:=hS _ (List.mem_singleton.2 rfl) trivial
     refine⟨fun hg hl=>?_,fun hg hb hl=>?_⟩
     · obtain⟨m,h1,h2⟩:=hl
       exact⟨m,by show ρ nx=_;rw[hx,zci hg];exact h1,h2⟩
     · obtain⟨m,h1,h2⟩:=hl
       exact⟨m,by show ρ nx=_;rw[hx,zew hg hb];exact h1,h2⟩
   · cases hm
     have hx:ρ nx=_:=hS _ (List.mem_singleton.2 rfl) trivial
     refine⟨fun hg hl=>?_,fun hg hb hl=>?_⟩
     · obtain⟨m,h1,h2⟩:=hl
       exact⟨m,by show ρ nx=_;rw[hx,zci hg];exact h1,h2⟩
     · obtain⟨m,h1,h2⟩:=hl
       exact⟨m,by show ρ nx=_;rw[hx,zew hg hb];exact h1,h2⟩
   ·cases hm;exact⟨fun _ _=>trivial,fun _ _ _=>trivial⟩
theorem zbE {I:Nat->List T->List T->Prop}:∀{ns os ls:List Leaf} {nx nx':Nat} {sis:List (Grd × SI)},mergeLeaves G nx ns os=some (ls,sis,nx')->HoldsS I ρ sis->ls.length=ns.length/\ls.length=os.length/\nx<=nx' /\
 ∀(j:Nat) l,ls[j]? = some l->∃n o,ns[j]? = some n/\os[j]? = some o/\∀(k:Nat->Prop) v,(holdsG ρ G->LeafRel tab C k ρ n v->LeafRel tab C k ρ l v)/\(¬holdsG ρ G->BoolG ρ G->LeafRel tab C k ρ o v->LeafRel tab C k ρ l v)
 |[],[],ls,nx,nx',sis,h,_=>by cases h;exact⟨rfl,rfl,Nat.le_refl _,fun j l hj=>by simp at hj⟩
 |[],_::_,_,_,_,_,h,_=>by simp[mergeLeaves]at h
 |_::_,[],_,_,_,_,h,_=>by simp[mergeLeaves]at h
 | n :: ns, o :: os, ls, nx, nx', sis, h, hS => by
   simp only[mergeLeaves]at h
   split at h
   · rename_i ls' sis' nx2 hrest
     obtain⟨l,si,hml⟩:∃l si,mergeLeaf G nx n o=(l,si):=⟨_,_,rfl⟩
     rw[hml]at hrest h
     cases h
     have hS1:HoldsS I ρ si:=fun x hx=>hS x (List.mem_append_left _ hx)
     have hS2:HoldsS I ρ sis':=fun x hx=>hS x (List.mem_append_right _ hx)
     obtain⟨h1,h2,h3,h4⟩:=zbE hrest hS2
     refine⟨by simp[h1],by simp[h2],by omega,fun j l2 hj=>?_⟩
     cases j with
     |zero=>simp at hj;subst hj;exact⟨n,o,rfl,rfl,fun k v=>zev hml hS1⟩
     |succ j=>simpa using h4 j l2 (by simpa using hj)
   ·cases h
theorem zaL {I:Nat->List T->List T->Prop}{nx nx':Nat}{n o ob:Obj}{sis:List (Grd × SI)}(hm:mergeOb G nx n o=some (ob,sis,nx'))(hS:HoldsS I ρ sis){q:Nat}{k:Nat->Prop} :
 nx<=nx'/\(n=o/\ob=o\/(ob.owned=true/\o.owned=true/\n.owned=true/\ob.isView=false/\o.isView=false/\n.isView=false/\(∀et d,ob = .row true et d->d = .var nx/\nx<nx'))) /\
 (holdsG ρ G->ObRel tab C k ρ noGam w q n->ObRel tab C k ρ noGam w q ob)/\(¬holdsG ρ G->BoolG ρ G->ObRel tab C k ρ noGam w q o->ObRel tab C k ρ noGam w q ob):=by
 unfold mergeOb at hm
 split at hm
 ·rename_i h;subst h;cases hm;exact⟨Nat.le_refl _,.inl ⟨rfl,rfl⟩,fun _=>id,fun _ _=>id⟩
 · split at hm
   · split at hm
     · rename_i he
       subst he
       cases hm
       have hx:ρ nx=_:=hS _ (List.mem_singleton.2 rfl) trivial
       refine⟨by omega,.inr ⟨rfl,rfl,rfl,rfl,rfl,rfl,fun et d e=>by cases e;exact⟨rfl,by omega⟩⟩,fun hg hl=>?_,fun hg hb hl=>?_⟩
       · obtain⟨rows,h1,h2⟩:=hl
         exact⟨rows,by show ρ nx=_;rw[hx,zci hg];exact h1,h2⟩
       · obtain⟨rows,h1,h2⟩:=hl
         exact⟨rows,by show ρ nx=_;rw[hx,zew hg hb];exact h1,h2⟩
     ·cases hm
   · split at hm
     · rename_i ns os ls sis' nx2 hml
       cases hm
       obtain⟨h1,h2,h3,h4⟩:=zbE (tab:=tab) (C:=C) hml hS
       refine⟨h3,.inr ⟨rfl,rfl,rfl,rfl,rfl,rfl,fun et d e=>by cases e⟩,fun hg hl=>?_,fun hg hb hl=>?_⟩
       · obtain⟨b,base,r1,r2,r3,r4⟩:=hl
         refine⟨b,base,r1,by rw[r2,h1],fun j l hj=>?_,fun e x hx=>r4 e x (by omega)⟩
         obtain⟨n',o',y1,y2,y3⟩:=h4 j l hj
         obtain⟨v,v1,v2⟩:=r3 j n' y1
         exact⟨v,v1,(y3 _ v).1 hg v2⟩
       · obtain⟨b,base,r1,r2,r3,r4⟩:=hl
         refine⟨b,base,r1,by rw[r2,h2],fun j l hj=>?_,fun e x hx=>r4 e x (by omega)⟩
         obtain⟨n',o',y1,y2,y3⟩:=h4 j l hj
         obtain⟨v,v1,v2⟩:=r3 j o' y2
         exact⟨v,v1,(y3 _ v).2 hg hb v2⟩
     ·cases hm
   ·cases hm
def guardOf (ops:Array Oper)(Γ:Gam)(o:Oper):Option Grd :=
 match o.guard with
 |none=>some []
 | some (j, want) => match (ops[j]?).bind (·.dst) with
   | some t => match Γ.get t with
     |some (g,.s (.one (.bool e)))=>some ((e,want)::g)
     |_=>none
   |none=>none
theorem zbQ (h:Rel tab Γ ρ tm w C kn Wr w0){ops:Array Oper}{o:Oper}(hg:guardOf ops Γ o=some G)(hsz:∀t:Nat,Γ.get t≠none->t<tm.size) :
 Region.wanted o (yielded ops tm)=true↔holdsG ρ G:=by
 unfold guardOf at hg
 unfold Region.wanted
 split at hg
 · rename_i hn
   cases hg
   rw[hn];simp[holdsG]
 · rename_i j want hn
   rw[hn]
   split at hg
   case h_2=>cases hg
   rename_i t ht
   split at hg
   case h_2=>cases hg
   rename_i g e hge
   cases hg
   have hlt:=hsz t (by rw[hge];simp)
   obtain⟨h1,h2⟩:=h.tms t g _ hge
   have hget:tm[t]? = some (tm.getD t undef):=by
    rw[Array.getD_eq_getD_getElem?,Array.getElem?_eq_getElem hlt];rfl
   simp only[yielded,ht,Option.bind_some,hget,holdsG]
   by_cases hg:holdsG ρ g
   · obtain⟨⟨b,hb,hv⟩,_⟩:=h1 hg
     rw[hv,hb]
     cases b<;>cases want<;>simp[hg]
   · rw[h2 hg]
     simp[hg,undef]
def obOk1 (Γ:Gam)(G:Grd)(nx nx' no no':Nat)(x:Nat × Option (Grd × Obj)):Bool :=
 match x with
 |(_,none)=>true
 | (o, some (g, ob)) => g == G && Nat.ble no o && Nat.blt o no' && (match ob with
   |.row true _ (.var v)=>Nat.ble nx v&&Nat.blt v nx'
   |.row true _ _=>false
   | .view par pd _ _ _ _ => match Γ.obj par with
     |some (_,.row true _ pd')=>pd'==pd && !isPunch pd'
     |_=>false
   |_=>true)
def obOk (Γ:Gam)(G:Grd)(nx nx' no no':Nat)(l:List (Nat × Option (Grd × Obj))):Bool:=G.isEmpty||l.all (obOk1 Γ G nx nx' no no')
theorem obj_appOb_in:∀(l:List (Nat × Option (Grd × Obj))) (Γ:Gam) (o:Nat) (x:Grd × Obj),(Γ.appOb l).obj o=some x->(o,some x)∈l\/Γ.obj o=some x
 |[],Γ,o,x,h=>.inr h
 | (k, some y) :: l, Γ, o, x, h => by
   rcases obj_appOb_in l _ o x h with h|h
   ·exact .inl (List.mem_cons_of_mem _ h)
   · by_cases e:k=o
     ·subst e;rw[Gam.obj_setOb_self]at h;cases h;exact .inl (by simp)
     ·rw[Gam.obj_setOb_ne _ _ e]at h;exact .inr h
 | (k, none) :: l, Γ, o, x, h => by
   rcases obj_appOb_in l _ o x h with h|h
   ·exact .inl (List.mem_cons_of_mem _ h)
   · by_cases e:k=o
     ·subst e;rw[Gam.obj_delOb_self]at h;cases h
     ·rw[Gam.obj_delOb_ne _ e]at h;exact .inr h
theorem Rel.unwanted(h:Rel tab Γ ρ tm w C kn Wr w0)(hG:¬holdsG ρ G){nx' no':Nat}{l:List (Nat × Option (Grd × Obj))}(hl:obOk Γ G nx nx' no no' l=true) :
 Rel tab (Γ.appOb l) ρ tm w C ⟨fun o=>kn.o o\/(no<=o/\o<no'),fun x=>kn.v x\/(nx<=x/\x<nx')⟩ Wr w0:=by
 have hne:G ≠ []:=by rintro rfl;exact hG trivial
 simp only[obOk,Bool.or_eq_true,List.isEmpty_iff,hne,false_or,List.all_eq_true]at hl
 have hnew:∀o g ob,(o,some (g,ob))∈l->g=G:=by
  intro o g ob hm
  have:=hl _ hm
  simp only[obOk1,Bool.and_eq_true,beq_iff_eq]at this
  exact this.1.1.1
 have hk:kn.le ⟨fun o=>kn.o o\/(no<=o/\o<no'),fun x=>kn.v x\/(nx<=x/\x<nx')⟩:=⟨fun _=>.inl,fun _=>.inl⟩
 have h':=h.know hk
 have hsplit:∀o g ob,(Γ.appOb l).obj o=some (g,ob)->holdsG ρ g->Γ.obj o=some (g,ob):=by
  intro o g ob ho hg
  rcases obj_appOb_in l Γ o _ ho with hm|ho
  ·rw[hnew o g ob hm]at hg;exact absurd hg hG
  ·exact ho
 exact {
  tms:=fun t g sv ht=>by
   rw[zar]at ht
   exact h'.tms t g sv ht
  obs := fun o g ob ho => by
   rcases obj_appOb_in l Γ o _ ho with hm|ho'
   · have hgG:=hnew o g ob hm
     have hok:=hl _ hm
     simp only[obOk1,Bool.and_eq_true,beq_iff_eq]at hok
     obtain⟨⟨⟨_,a1⟩,a2⟩,a3⟩:=hok
     refine⟨.inr ⟨Nat.le_of_ble_eq_true a1,Nat.le_of_ble_eq_true a2⟩,?_,fun hg=>absurd (hgG▸hg) hG⟩
     split at a3
     · simp only[Bool.and_eq_true]at a3
       exact⟨_,rfl,.inr ⟨Nat.le_of_ble_eq_true a3.1,Nat.le_of_ble_eq_true a3.2⟩⟩
     ·cases a3
     · rename_i par pd i j et d
       split at a3
       · rename_i g2 pet pd' hp
         simp only[Bool.and_eq_true,beq_iff_eq,Bool.not_eq_true']at a3
         obtain⟨hpd,hnp⟩:=a3
         subst hpd
         obtain⟨q1,q2,_⟩:=h'.obs par g2 _ hp
         exact⟨q1,q2.var hnp⟩
       ·cases a3
     · rename_i hx1 hx2 hx3
       cases ob with
       | row dp et d => cases dp with
         |true=>exact absurd rfl (hx2 et d)
         |false=>trivial
       |view par pd i j et d=>exact absurd rfl (hx3 par pd i j et d)
       |box=>trivial
       |map=>trivial
   · obtain⟨q1,q2,q3⟩:=h'.obs o g ob ho'
     exact⟨q1,q2,fun hg=>(q3 hg).congrObj fun par pd i j et d _ gp pet hp hgp=>⟨gp,hsplit par gp _ hp hgp,hgp⟩⟩
  dis:=fun o o' g g' ob ob' ho ho' hg hg'=>h.dis o o' g g' ob ob' (hsplit o g ob ho hg) (hsplit o' g' ob' ho' hg') hg hg'
  own:=fun o g ob ho hg=>h.own o g ob (hsplit o g ob ho hg) hg
  frm:=h.frm }
def mergeUpds(Γ Γ1:Gam)(G:Grd):Nat->List Nat->Option (List (Nat × Option (Grd × Obj)) × List (Grd × SI) × Nat)
 |nx,[]=>some ([],[],nx)
 | nx, o :: os => match Γ1.obj o, Γ.obj o with
   | some ([], n), some ([], old) => if n = old then mergeUpds Γ Γ1 G nx os else match mergeOb G nx n old with
     | some (ob, sis, nx') => match mergeUpds Γ Γ1 G nx' os with
       |some (l,sis',nx'')=>some ((o,some ([],ob))::l,sis++sis',nx'')
       |none=>none
     |none=>none
   |_,_=>mergeUpds Γ Γ1 G nx os
def okFinal (Γ Γ2:Gam)(G:Grd)(nx nx' no no':Nat)(ups:List (Nat × Option (Grd × Obj)))(o:Nat):Bool :=
 (lastOf ups o).isSome||match Γ2.obj o with
  |none=>true
  |some x=>obOk1 Γ G nx nx' no no' (o,some x)||Γ.obj o==some x
def mergeR (Γ:Gam)(G:Grd)(nx no:Nat)(r:Res):Option Res :=
 match mergeUpds Γ (Γ.appOb r.ob) G r.nx ((r.ob.map (·.1)).eraseDups) with
 | some (ups, sis, nx') =>
   if boolG Γ G&&(r.ob.map (·.1)).all (okFinal Γ (Γ.appOb (r.ob++ups)) G nx nx' no r.no ups) then some { r with ob:=r.ob++ups,sis:=r.sis++sis,nx:=nx' } else none
 |none=>none
theorem zaU {I:Nat->List T->List T->Prop}{Γ1:Gam}:∀{os:List Nat} {nx nx':Nat} {ups:List (Nat × Option (Grd × Obj))} {sis:List (Grd × SI)},mergeUpds Γ Γ1 G nx os=some (ups,sis,nx')->HoldsS I ρ sis->nx<=nx' /\
 ∀o x,lastOf ups o=some x->∃ob n old k k' sis',x=some ([],ob)/\Γ1.obj o=some ([],n)/\Γ.obj o=some ([],old)/\n≠old/\mergeOb G k n old=some (ob,sis',k')/\HoldsS I ρ sis'/\nx<=k/\k'<=nx'
 |[],nx,nx',ups,sis,h,_=>by cases h;exact⟨Nat.le_refl _,fun o x hx=>by simp[lastOf]at hx⟩
 | o :: os, nx, nx', ups, sis, h, hS => by
   simp only[mergeUpds]at h
   split at h
   · rename_i n old h1 h2
     split at h
     ·exact zaU h hS
     · rename_i hne
       split at h
       case h_2=>cases h
       rename_i ob sis1 nx1 hm
       split at h
       case h_2=>cases h
       rename_i l sis2 nx2 hrest
       cases h
       have hS1:HoldsS I ρ sis1:=fun x hx=>hS x (List.mem_append_left _ hx)
       have hS2:HoldsS I ρ sis2:=fun x hx=>hS x (List.mem_append_right _ hx)
       obtain⟨h3,h4⟩:=zaU hrest hS2
       have h5:=(zaL (tab:=[]) (C:=⟨fun _=>none,fun _=>0,fun _=>0,fun _=>Emp⟩) (w:=default) (q:=0) (k:=fun _=>True) hm hS1).1
       refine⟨by omega,fun o2 x hx=>?_⟩
       simp only[lastOf]at hx
       split at hx
       · rename_i y hy
         cases hx
         obtain⟨ob',n',old',k,k',sis',a1,a2,a3,a4,a5,a6,a7,a8⟩:=h4 o2 _ hy
         exact⟨ob',n',old',k,k',sis',a1,a2,a3,a4,a5,a6,by omega,a8⟩
       · split at hx
         · rename_i e
           have e:=Nat.eq_of_beq_eq_true e
           subst e
           cases hx
           exact⟨ob,n,old,nx,nx1,sis1,rfl,h1,h2,hne,hm,hS1,Nat.le_refl _,h3⟩
         ·cases hx
   ·exact zaU h hS
theorem zgx {I : Nat -> List T -> List T -> Prop} {nx no : Nat} {r r' : Res} (h : Rel tab Γ ρ tm w C kn Wr w0) (hm : mergeR Γ G nx no r = some r') (hS : HoldsS I ρ r'.sis) (hle : nx <= r.nx) (hfx : ∀ x, nx <= x -> x < r'.nx -> ¬ kn.v x) :
 (∃ex,r'.sis=r.sis++ex)/\r.nx<=r'.nx/\r'.no=r.no/\(holdsG ρ G->∀v w',Post tab Γ ρ tm C kn Wr w0 nx no r v w'->Post tab Γ ρ tm C kn Wr w0 nx no r' v w') /\
 (¬holdsG ρ G->Rel tab (Γ.appOb r'.ob) ρ tm w C ⟨fun o=>kn.o o\/(no<=o/\o<r'.no),fun x=>kn.v x\/(nx<=x/\x<r'.nx)⟩ Wr w0):=by
 unfold mergeR at hm
 split at hm
 case h_2=>cases hm
 rename_i ups sis nx' hups
 split at hm
 case isFalse=>cases hm
 rename_i hc
 cases hm
 simp only[Bool.and_eq_true,List.all_eq_true]at hc
 obtain⟨hbg,hfin⟩:=hc
 have hB:=zet h hbg
 have hS2:HoldsS I ρ sis:=fun x hx=>hS x (List.mem_append_right _ hx)
 obtain⟨hn,hsp⟩:=zaU hups hS2
 refine⟨⟨sis,rfl⟩,hn,rfl,fun hG v w' hp=>?_,fun hG=>?_⟩
 · obtain⟨C',kn',p1,p2,p3,p4,p5⟩:=hp
   let kn2:Kn:=⟨kn'.o,fun x=>kn'.v x\/(r.nx<=x/\x<nx')⟩
   have hk:kn'.le kn2:=⟨fun _=>id,fun _=>.inl⟩
   have hE:Γ.appOb (r.ob++ups)=(Γ.appOb r.ob).appOb ups:=Gam.appOb_append ..
   refine⟨C',kn2,?_,p2,⟨⟨fun o ho=>p3.le.1 o ho,fun x hx=>.inl (p3.le.2 x hx)⟩,p3.same⟩,p4,fun x hx=>?_⟩
   · show Rel tab (Γ.appOb (r.ob++ups)) ρ tm w' C' kn2 Wr w0
     rw[hE]
     refine p1.remap hk (fun t=>zar _ _ _) (fun o g ob ho=>?_) fun o g pet x ho hg hx=>?_
     · rw[za0]at ho
       cases hl:lastOf ups o with
       | none =>
         rw[hl]at ho
         obtain⟨a1,a2,_⟩:=p1.obs o g ob ho
         exact⟨a1,a2.mono hk.1 hk.2,fun hg=>⟨g,ob,ho,hg,rfl,rfl,fun _=>rfl,fun _=>id⟩⟩
       | some y =>
         rw[hl]at ho
         obtain⟨ob',n,old,k,k',sis',a1,a2,a3,a4,a5,a6,a7,a8⟩:=hsp o y hl
         subst a1
         cases ho
         obtain⟨b1,b2,b3,_⟩:=zaL (tab:=tab) (C:=C') (w:=w') (q:=o) (k:=kn'.o) a5 a6
         rcases b2 with⟨b2,_⟩|⟨c1,c2,c3,c4,c5,c6,c7⟩
         ·exact absurd b2 a4
         · refine⟨(p1.obs o [] n a2).1,?_,fun hg=>⟨[],n,a2,trivial,c3.trans c1.symm,c6.trans c4.symm,fun hv=>(by rw[c4]at hv;cases hv),fun _=>b3 hG⟩⟩
           cases ob with
           | row dp et d => cases dp with
             |true=>obtain⟨rfl,q2⟩:=c7 et d rfl;exact⟨k,rfl,.inr ⟨a7,by omega⟩⟩
             |false=>trivial
           |view=>cases c4
           |box=>trivial
           |map=>trivial
     · rw[za0]at ho
       cases hl:lastOf ups o with
       |none=>rw[hl]at ho;exact⟨g,ho,hg⟩
       | some y =>
         rw[hl]at ho
         obtain⟨ob',n,old,k,k',sis',a1,a2,a3,a4,a5,a6,a7,a8⟩:=hsp o y hl
         subst a1
         cases ho
         obtain⟨b1,b2,_⟩:=zaL (tab:=tab) (C:=C') (w:=w') (q:=o) (k:=kn'.o) a5 a6
         rcases b2 with⟨b2,_⟩|⟨c1,c2,c3,c4,c5,c6,c7⟩
         ·exact absurd b2 a4
         · obtain⟨e1,e2⟩:=c7 pet (.var x) rfl
           cases e1
           rcases p5 _ hx with hv|hv
           ·exact absurd hv (hfx _ (by omega) (by show _<nx';omega))
           ·omega
   · rcases hx with hx|hx
     ·exact (p5 x hx).imp id fun h=>⟨h.1,by show x<nx';omega⟩
     ·exact .inr ⟨by omega,hx.2⟩
 · let kn2:Kn:=⟨fun o=>kn.o o\/(no<=o/\o<r.no),fun x=>kn.v x\/(nx<=x/\x<nx')⟩
   have hk:kn.le kn2:=⟨fun _=>.inl,fun _=>.inl⟩
   have hE:Γ.appOb (r.ob++ups)=(Γ.appOb r.ob).appOb ups:=Gam.appOb_append ..
   have hcases : ∀ o g ob, (Γ.appOb (r.ob ++ ups)).obj o = some (g, ob) -> (∃ y, lastOf ups o = some y) \/ obOk1 Γ G nx nx' no r.no (o, some (g, ob)) = true \/ Γ.obj o = some (g, ob) := by
    intro o g ob ho
    have ho2:=ho
    rw[hE,za0]at ho2
    cases hl:lastOf ups o with
    |some y=>exact .inl ⟨y,rfl⟩
    | none =>
      rw[hl]at ho2
      rw[za0]at ho2
      cases hl2:lastOf r.ob o with
      |none=>rw[hl2]at ho2;exact .inr (.inr ho2)
      | some z =>
        obtain⟨u,u1,u2⟩:=(show ∃y∈r.ob,y.1=o from by
         have : ∀ {l : List (Nat × Option (Grd × Obj))} {o : Nat} {x : Option (Grd × Obj)}, lastOf l o = some x -> ∃ y ∈ l, y.1 = o := by
          intro l
          induction l with
          |nil=>intro o x h;simp[lastOf]at h
          | cons p l ih =>
            intro o x h
            obtain⟨k,y⟩:=p
            simp only[lastOf]at h
            split at h
            · rename_i z hz
              obtain⟨y,h1,h2⟩:=ih hz
              exact⟨y,List.mem_cons_of_mem _ h1,h2⟩
            · split at h
              ·rename_i e;exact⟨(k,y),by simp,Nat.eq_of_beq_eq_true e⟩
              ·cases h
         exact this hl2)
        have hf:=hfin o (List.mem_map.2 ⟨u,u1,u2⟩)
        simp only[okFinal,hl,Option.isSome_none,Bool.false_or,ho]at hf
        simp only[Bool.or_eq_true,beq_iff_eq]at hf
        exact .inr hf
   show Rel tab (Γ.appOb (r.ob++ups)) ρ tm w C kn2 Wr w0
   refine h.remap hk (fun t=>zar _ _ _) (fun o g ob ho=>?_) fun o g pet x ho hg hx=>?_
   · rcases hcases o g ob ho with⟨y,hl⟩|hok|hsame
     · rw[hE,za0,hl]at ho
       obtain⟨ob',n,old,k,k',sis',a1,a2,a3,a4,a5,a6,a7,a8⟩:=hsp o y hl
       subst a1
       cases ho
       obtain⟨b1,b2,_,b4⟩:=zaL (tab:=tab) (C:=C) (w:=w) (q:=o) (k:=kn.o) a5 a6
       rcases b2 with⟨b2,_⟩|⟨c1,c2,c3,c4,c5,c6,c7⟩
       ·exact absurd b2 a4
       · refine⟨.inl (h.obs o [] old a3).1,?_,fun hg=>⟨[],old,a3,trivial,c2.trans c1.symm,c5.trans c4.symm,fun hv=>(by rw[c4]at hv;cases hv),fun _=>b4 hG hB⟩⟩
         cases ob with
         | row dp et d => cases dp with
           |true=>obtain⟨rfl,q2⟩:=c7 et d rfl;exact⟨k,rfl,.inr ⟨by omega,by omega⟩⟩
           |false=>trivial
         |view=>cases c4
         |box=>trivial
         |map=>trivial
     · simp only[obOk1,Bool.and_eq_true,beq_iff_eq]at hok
       obtain⟨⟨⟨a0,a1⟩,a2⟩,a3⟩:=hok
       refine⟨.inr ⟨Nat.le_of_ble_eq_true a1,Nat.le_of_ble_eq_true a2⟩,?_,fun hg=>absurd (a0▸hg) hG⟩
       split at a3
       · simp only[Bool.and_eq_true]at a3
         exact⟨_,rfl,.inr ⟨Nat.le_of_ble_eq_true a3.1,Nat.le_of_ble_eq_true a3.2⟩⟩
       ·cases a3
       · rename_i par pd i j et d
         split at a3
         · rename_i g2 pet pd' hp
           simp only[Bool.and_eq_true,beq_iff_eq,Bool.not_eq_true']at a3
           obtain⟨hpd,hnp⟩:=a3
           subst hpd
           obtain⟨q1,q2,_⟩:=(h.know hk).obs par g2 _ hp
           exact⟨q1,q2.var hnp⟩
         ·cases a3
       · rename_i hx1 hx2 hx3
         cases ob with
         | row dp et d => cases dp with
           |true=>exact absurd rfl (hx2 et d)
           |false=>trivial
         |view par pd i j et d=>exact absurd rfl (hx3 par pd i j et d)
         |box=>trivial
         |map=>trivial
     · obtain⟨a1,a2,_⟩:=h.obs o g ob hsame
       exact⟨.inl a1,a2.mono hk.1 hk.2,fun hg=>⟨g,ob,hsame,hg,rfl,rfl,fun _=>rfl,fun _=>id⟩⟩
   · rcases hcases o g _ ho with⟨y,hl⟩|hok|hsame
     · rw[hE,za0,hl]at ho
       obtain⟨ob',n,old,k,k',sis',a1,a2,a3,a4,a5,a6,a7,a8⟩:=hsp o y hl
       subst a1
       cases ho
       obtain⟨b1,b2,_⟩:=zaL (tab:=tab) (C:=C) (w:=w) (q:=o) (k:=kn.o) a5 a6
       rcases b2 with⟨b2,_⟩|⟨c1,c2,c3,c4,c5,c6,c7⟩
       ·exact absurd b2 a4
       · obtain⟨e1,e2⟩:=c7 pet (.var x) rfl
         cases e1
         exact absurd hx (hfx _ (by omega) (by show _<nx';omega))
     · simp only[obOk1,Bool.and_eq_true,beq_iff_eq]at hok
       exact absurd (hok.1.1.1▸hg) hG
     ·exact⟨g,hsame,hg⟩
def Gam.after(Γ:Gam)(G:Grd)(dst:Option Tmp)(r:Res):Gam:=match dst with
 |some t=>(Γ.appOb r.ob).put t (G,r.sv)
 |none=>Γ.appOb r.ob
def dstOk (nt:Nat):Option Tmp->Bool
 |some t=>Nat.blt t nt
 |none=>true
def anStep0 (tab:Tab)(sigs:List Sig)(ops:Array Oper)(nt:Nat)(Γ:Gam)(nx no:Nat)(o:Oper):Option (Grd × Res) :=
 match guardOf ops Γ o with
 | some G => match anOp tab sigs Γ G nx no o.op with
   | some r0 => let r := canonR Γ G r0
     if Nat.ble nx r.nx&&Nat.ble no r.no&&dstOk nt o.dst then
      if obOk Γ G nx r.nx no r.no r.ob then some (G,r) else match mergeR Γ G nx no r with
       |some r'=>some (G,r')
       |none=>none
     else none
   |none=>none
 |none=>none
structure St (tab:Tab)(nt:Nat)(E:Nat->Prop)(C0:Ctx)(Γ:Gam)(ρ:Env)(a:Act)(w:World)(ds:List Deferred)(kn:Kn)(Wr:CS)(w0:World):Prop where
 rel:∃C,Rel tab Γ ρ a.tmps w C kn Wr w0/\∀o,E o->kn.o o->C.A o=C0.A o/\C.N o=C0.N o/\C.K o=C0.K o
 size:a.tmps.size=nt
 tms:∀t:Nat,Γ.get t≠none->t<nt
 defers:a.defers=ds
theorem zbF {E:Nat->Prop}{C0:Ctx}{nt:Nat}{ops:Array Oper}{o:Oper}{a:Act}{ds:List Deferred}{r:Res}{Q:Exit->Act->World->Prop}{K:Act->World->Prop}(hT:TabOk P tab)(h:St tab nt E C0 Γ ρ a w ds kn Wr w0)(hE:∀o,E o->o<no)
 (hr:anStep0 tab sigs ops nt Γ nx no o=some (G,r)) (hS:HoldsS (CallOk P tab sigs) ρ r.sis) (hfo:∀o,no<=o->o<r.no->¬kn.o o) (hfx:∀x,nx<=x->x<r.nx->¬kn.v x)
 (hK:∀a' w' kn',St tab nt E C0 (Γ.after G o.dst r) ρ a' w' ds kn' Wr w0->kn.le kn'->(∀o,kn'.o o->kn.o o\/(no<=o/\o<r.no))->(∀x,kn'.v x->kn.v x\/(nx<=x/\x<r.nx))->K a' w') :
 if Region.wanted o (yielded ops a.tmps) then o.wp P a w K Q else K (a.put o.dst undef) w:=by
 obtain⟨⟨C,h1,hkeep⟩,h2,h3,h4⟩:=h
 unfold anStep0 at hr
 split at hr
 case h_2=>cases hr
 rename_i G' hg
 split at hr
 case h_2=>cases hr
 rename_i r0 hop
 simp only at hr
 split at hr
 case isFalse=>cases hr
 rename_i hc
 simp only[Bool.and_eq_true]at hc
 obtain⟨⟨c2,c3⟩,c4⟩:=hc
 have c2:=Nat.le_of_ble_eq_true c2
 have key : G = G' /\ (∃ ex, r.sis = r0.sis ++ ex) /\ r0.nx <= r.nx /\ r.no = r0.no /\ (holdsG ρ G' -> ∀ v w', Post tab Γ ρ a.tmps C kn Wr w0 nx no (canonR Γ G' r0) v w' -> Post tab Γ ρ a.tmps C kn Wr w0 nx no r v w') /\
  (¬holdsG ρ G'->Rel tab (Γ.appOb r.ob) ρ a.tmps w C ⟨fun o=>kn.o o\/(no<=o/\o<r.no),fun x=>kn.v x\/(nx<=x/\x<r.nx)⟩ Wr w0):=by
  split at hr
  · rename_i hob
    cases hr
    exact⟨rfl,⟨[],by simp[canonR]⟩,Nat.le_refl _,rfl,fun _ _ _ hp=>hp,fun hG=>h1.unwanted hG hob⟩
  · split at hr
    · rename_i r' hm
      cases hr
      obtain⟨k1,k2,k3,k4,k5⟩:=zgx h1 hm hS c2 hfx
      exact⟨rfl,k1,k2,k3,k4,k5⟩
    ·cases hr
 obtain⟨hGG,⟨ex,hsis⟩,hnx,hno,hpost,hunw⟩:=key
 subst hGG
 have hS0:HoldsS (CallOk P tab sigs) ρ r0.sis:=by rw[hsis]at hS;exact fun x hx=>hS x (List.mem_append_left _ hx)
 have hfo0:∀o,no<=o->o<r0.no->¬kn.o o:=by rw[hno]at hfo;exact hfo
 have hfx0:∀x,nx<=x->x<r0.nx->¬kn.v x:=fun x h1 h2=>hfx x h1 (by omega)
 clear hr
 have hw:=zbQ h1 hg (fun t ht=>by rw[h2];exact h3 t ht)
 obtain⟨dst,op,ty,pos,aft,gd⟩:=o
 obtain⟨tm,ds'⟩:=a
 subst h4
 simp only at h1 h2 hw hop c4 ⊢
 have hst : ∀ v w' C' kn', Rel tab (Γ.appOb r.ob) ρ tm w' C' kn' Wr w0 -> (∀ o, E o -> kn'.o o -> C'.A o = C0.A o /\ C'.N o = C0.N o /\ C'.K o = C0.K o) -> (holdsG ρ G -> SVRel tab C' kn'.o ρ r.sv v) -> (¬ holdsG ρ G -> v = undef) ->
  St tab nt E C0 (Γ.after G dst r) ρ (Act.put ⟨tm,ds'⟩ dst v) w' ds' kn' Wr w0:=by
  intro v w' C' kn' hrel hk hv hu
  cases dst with
  |none=>exact⟨⟨C',hrel,hk⟩,h2,fun t ht=>h3 t (by rw[<- zar r.ob Γ t];exact ht),rfl⟩
  | some t =>
    have ht:t<nt:=Nat.le_of_ble_eq_true c4
    refine⟨⟨C',hrel.put (by rw[h2];exact ht) hv hu,hk⟩,by simp[Act.put,h2],fun t' ht'=>?_,rfl⟩
    by_cases e:t=t'
    ·subst e;exact ht
    · refine h3 t' ?_
      rw[<- zar r.ob Γ t']
      intro hn
      apply ht'
      show ((Γ.appOb r.ob).put t (G,r.sv)).get t'=none
      rw[Gam.get_put_ne _ _ e];exact hn
 split
 · rename_i hwt
   have hG:=hw.1 hwt
   have hd:=zix (ds:=ds') (dst:=dst) (ty:=ty) (pos:=pos) (aft:=aft) (gd:=gd) hT h1 hG hop hS0 hfo0 hfx0
   refine hd K Q fun v w' hp=>?_
   obtain⟨C',kn',p1,p2,p3,p4,p5⟩:=hpost hG v w' (hp.canon hG)
   refine hK _ _ kn' (hst v w' C' kn' p1 (fun o ho hk=>?_) (fun _=>p2) fun hn=>absurd hG hn) p3.le p4 p5
   rcases p4 o hk with h|h
   · obtain⟨y1,y2,y3⟩:=hkeep o ho h
     obtain⟨z1,z2,z3⟩:=p3.same o h
     exact⟨z1.trans y1,z2.trans y2,z3.trans y3⟩
   ·have:=hE o ho;omega
 · rename_i hwt
   have hG:¬holdsG ρ G:=fun hh=>hwt (hw.2 hh)
   have hrel:=hunw hG
   exact hK _ _ _ (hst undef w C _ hrel (fun o ho hk=>by
    rcases hk with h|h
    ·exact hkeep o ho h
    ·have:=hE o ho;omega) (fun hh=>absurd hh hG) fun _=>rfl) ⟨fun _=>.inl,fun _=>.inl⟩ (fun _=>id) (fun _=>id)
end
end Gp
namespace Gp
open Go
def take1 (tab:Tab)(Γ:Gam)(nx no o:Nat):Option (List Upd × List (Grd × SI)) :=
 match Γ.obj o with
 | some ([], .view par pd i j et d) => match Γ.obj par with
   | some ([], .row true pet pd') => match tab.get pet with
     | some ti => if !isHoleE d && pd == pd' && decide (o ≠ par) && Nat.blt o no && Nat.blt j ti.size then
      some ([(par,some ([],.row true pet (.var nx))),(o,some ([],.row true et (.var (nx+1)))),(no,some ([],.view par (.var nx) i j et (holeE o)))]++sibs Γ par pd i j nx [o,no] (Γ.ob.map (·.1)),
       [([],.set nx (cellPut ti.size j pd i (holeE o))),([],.set (nx+1) d)])
       else none
     |none=>none
   |_=>none
 |_=>none
def put1 (tab:Tab)(Γ:Gam)(nx o q:Nat):List Upd × List (Grd × SI) × Nat :=
 match Γ.obj q,Γ.obj o with
 | some ([], .view par pd i j et d), some ([], .row true et' d2) => match Γ.obj par with
   | some ([], .row true pet pd') => match tab.get pet with
     | some ti => if d == holeE o && pd == pd' && Nat.beq et et' && decide (o ≠ par) && decide (o ≠ q) && decide (q ≠ par) && Nat.blt j ti.size then
      ([(q,none),(o,none),(par,some ([],.row true pet (.var nx))),(o,some ([],.view par (.var nx) i j et d2))]++sibs Γ par pd i j nx [o,q] (Γ.ob.map (·.1)),
       [([],.set nx (cellPut ti.size j pd i d2))],nx+1)
       else ([(q,none)],[],nx)
     |none=>([(q,none)],[],nx)
   |_=>([(q,none)],[],nx)
 |_,_=>([(q,none)],[],nx)
def takes (tab:Tab):List Nat->Gam->Nat->Nat->Option (List Upd × List (Grd × SI) × List (Nat × Nat) × Nat × Nat)
 |[],Γ,nx,no=>some ([],[],[],nx,no)
 | o :: os, Γ, nx, no => match take1 tab Γ nx no o with
   | some (up, si) => match takes tab os (Γ.appOb up) (nx + 2) (no + 1) with
     |some (up2,si2,ties,nx2,no2)=>some (up++up2,si++si2,ties ++ [(o,no)],nx2,no2)
     |none=>none
   |none=>none
def puts (tab:Tab):List (Nat × Nat)->Gam->Nat->List Upd × List (Grd × SI) × Nat
 |[],Γ,nx=>([],[],nx)
 | (o, q) :: r, Γ, nx =>
   let x:=put1 tab Γ nx o q
   let y:=puts tab r (Γ.appOb x.1) x.2.2
   (x.1++y.1,x.2.1++y.2.1,y.2.2)
def viewIn (Γ:Gam):Leaf->List Nat
 | .sl o .. | .slw o _ | .pe o .. => match Γ.obj o with
   |some ([],.view ..)=>[o]
   |_=>[]
 |_=>[]
def leaves1:S1->List Leaf
 |.one l=>[l]
 |.agg ls=>ls
def viewsOf (Γ:Gam)(x:Operand):List Nat:=match (opd Γ [] x).bind leavesOf with
 |some ls=>ls.flatMap (viewIn Γ)
 |none=>[]
def ownedLeaf(obs:Obs):Leaf->Bool
 | .sl o .. | .slw o _ => match look o obs with
   |some (.row true ..)=>true
   |_=>false
 |_=>false
def zipTake (Γ:Gam)(obs:Obs):List Leaf->List Leaf->List Nat
 |l'::r',l::r=>(if ownedLeaf obs l' then viewIn Γ l else [])++zipTake Γ obs r' r
 |_,_=>[]
def dedup:List Nat->List Nat
 |[]=>[]
 |x::r=>if (dedup r).contains x then dedup r else x::dedup r
def needTakes(sigs:List Sig)(Γ:Gam):Op->List Nat
 | .store _ a v => match opd Γ [] a with
   |some (.s (.one (.pe o et i j)))=>dedup (viewIn Γ (.pe o et i j)++viewsOf Γ v)
   |_=>[]
 |.buildSlice _ _ ps=>dedup (ps.toList.flatMap fun p=>viewsOf Γ p.2)
 | .call c => match c.callee with
   | .builtin .append => match c.args.toList with
     |x::_=>dedup (viewsOf Γ x)
     |_=>[]
   | .builtin .clear => match c.args.toList with
     |x::_=>dedup (viewsOf Γ x)
     |_=>[]
   | .value f => match opd Γ [] f with
     | some (.s (.one (.fn fid _))) => match sigs.find? (fun S => Nat.beq S.f fid), c.args.toList.mapM (argS1 Γ []) with
       |some S,some xs=>dedup (zipTake Γ S.obs (S.ins.flatMap leaves1) (xs.flatMap leaves1))
       |_,_=>[]
     |_=>[]
   |_=>[]
 |_=>[]
def anStep (tab:Tab)(sigs:List Sig)(ops:Array Oper)(nt:Nat)(Γ:Gam)(nx no:Nat)(o:Oper):Option (Grd × Res) :=
 match needTakes sigs Γ o.op with
 |[]=>anStep0 tab sigs ops nt Γ nx no o
 | os => match takes tab os Γ nx no with
   | some (up1, si1, ties, nx1, no1) => match anStep0 tab sigs ops nt (Γ.appOb up1) nx1 no1 o with
     | some (G, r) =>
       let y:=puts tab ties ((Γ.appOb up1).appOb r.ob) r.nx
       some (G,{ r with ob:=up1++(r.ob++y.1),sis:=si1++(r.sis++y.2.1),nx:=y.2.2 })
     |none=>none
   |none=>anStep0 tab sigs ops nt Γ nx no o
section
variable {tab:Tab}{Γ:Gam}{ρ ρ':Env}{tm:Array Value}{w w':World}{C C1 Cx:Ctx}{kn kn':Kn}{Wr:CS}{w0:World}{P:Program}{G:Grd}{nx no nb:Nat}{sigs:List Sig}
theorem zhz {I:Nat->List T->List T->Prop}(h:Rel tab Γ ρ tm w C kn Wr w0){o:Nat}{up:List Upd}{si:List (Grd × SI)}(ht:take1 tab Γ nx no o=some (up,si))(hS:HoldsS I ρ si)
 (hfx1:¬kn.v nx) (hfx2:¬kn.v (nx+1)) (hfo:¬kn.o no) :
 ∃C',Rel tab (Γ.appOb up) ρ tm w C' (((kn.addV nx).addV (nx+1)).addO no) Wr w0/\(∀o',kn.o o'->C'.A o'=C.A o'/\C'.N o'=C.N o'/\C'.K o'=C.K o')/\C'.A no=C'.A o/\C'.N no=C'.N o/\C'.K no=C'.K o/\kn.o o/\o<no:=by
 unfold take1 at ht
 split at ht
 case h_2=>cases ht
 rename_i par pd i j et d ho
 split at ht
 case h_2=>cases ht
 rename_i pet pd' hp
 split at ht
 case h_2=>cases ht
 rename_i ti hti
 split at ht
 case isFalse=>cases ht
 rename_i hc
 simp only[Bool.and_eq_true,Bool.not_eq_true',ne_eq,beq_iff_eq,decide_eq_true_eq]at hc
 obtain⟨⟨⟨⟨c1,c2⟩,c3⟩,c4⟩,c5⟩:=hc
 subst c2
 have c4:o<no:=Nat.le_of_ble_eq_true c4
 have c5:j<ti.size:=Nat.le_of_ble_eq_true c5
 cases ht
 have hx1:=hS ([],.set nx (cellPut ti.size j pd i (holeE o))) (by simp) trivial
 have hx2:=hS ([],.set (nx+1) d) (by simp) trivial
 have hko:=(h.obs o [] _ ho).1
 have hkp:=(h.obs par [] _ hp).1
 have hqo:no≠o:=fun e=>hfo (e▸hko)
 have hqp:no≠par:=fun e=>hfo (e▸hkp)
 obtain⟨C1,q1,q2,q3,q4,q5⟩:=h.takeV ho c1 hp hti hx1 hx2 hfx1 hfx2 (by omega) hfo c3
 obtain⟨C2,r1,r2⟩:=h.sibsW (kn':=((kn.addV nx).addV (nx+1)).addO no) ⟨fun _=>.inl,fun _ hh=>.inl (.inl hh)⟩ hp hti hx1 (.inl (.inr rfl)) c5 (not:=[o,no]) (fun _ _ _ _ _ _ _ _ _=>rfl) (Γ.ob.map (·.1)) _ C1 q1 q2 (by
  rw[Gam.obj_setOb_ne _ _ hqp,Gam.obj_setOb_ne _ _ c3,Gam.obj_setOb_self])
 refine⟨C2,?_,fun o' ho'=>?_,?_,?_,?_,hko,c4⟩
 ·rw[Gam.appOb_append];exact r1
 · obtain⟨y1,y2,y3⟩:=r2 o'
   obtain⟨z1,z2,z3⟩:=q2 o' ho'
   exact⟨y1.trans z1,y2.trans z2,y3.trans z3⟩
 ·rw[(r2 no).1,(r2 o).1,q3,(q2 o hko).1]
 ·rw[(r2 no).2.1,(r2 o).2.1,q4,(q2 o hko).2.1]
 ·rw[(r2 no).2.2,(r2 o).2.2,q5,(q2 o hko).2.2]
theorem ziK {I : Nat -> List T -> List T -> Prop} (h : Rel tab Γ ρ tm w C kn Wr w0) {o q : Nat} (hS : HoldsS I ρ (put1 tab Γ nx o q).2.1) (hfx : ∀ x, nx <= x -> x < (put1 tab Γ nx o q).2.2 -> ¬ kn.v x) :
 ∃ C' kn', Rel tab (Γ.appOb (put1 tab Γ nx o q).1) ρ tm w C' kn' Wr w0 /\ (∀ o', C'.A o' = C.A o' /\ C'.N o' = C.N o' /\ C'.K o' = C.K o') /\ kn.le kn' /\ (∀ o', kn'.o o' -> kn.o o') /\
   (∀x,kn'.v x->kn.v x\/(nx<=x/\x<(put1 tab Γ nx o q).2.2))/\nx<=(put1 tab Γ nx o q).2.2:=by
 have dflt:put1 tab Γ nx o q=([(q,none)],[],nx)->∃C' kn',Rel tab (Γ.appOb (put1 tab Γ nx o q).1) ρ tm w C' kn' Wr w0/\(∀o',C'.A o'=C.A o'/\C'.N o'=C.N o'/\C'.K o'=C.K o')/\kn.le kn'/\(∀o',kn'.o o'->kn.o o') /\
  (∀x,kn'.v x->kn.v x\/(nx<=x/\x<(put1 tab Γ nx o q).2.2))/\nx<=(put1 tab Γ nx o q).2.2:=by
  intro e
  rw[e]
  exact⟨C,kn,h.delOb q,fun _=>⟨rfl,rfl,rfl⟩,Kn.le.refl _,fun _=>id,fun _=>.inl,Nat.le_refl _⟩
 cases hq:Γ.obj q with
 |none=>exact dflt (by simp only[put1,hq])
 | some yq =>
   obtain⟨gq,obq⟩:=yq
   cases ho:Γ.obj o with
   |none=>exact dflt (by simp only[put1,hq,ho])
   | some yo =>
     obtain⟨go,obo⟩:=yo
     cases gq with
     |cons=>exact dflt (by simp only[put1,hq,ho])
     | nil =>
       cases obq with
       |row=>exact dflt (by simp only[put1,hq,ho])
       |box=>exact dflt (by simp only[put1,hq,ho])
       |map=>exact dflt (by simp only[put1,hq,ho])
       | view par pd i j et d =>
         cases go with
         |cons=>exact dflt (by simp only[put1,hq,ho])
         | nil =>
           cases obo with
           |view=>exact dflt (by simp only[put1,hq,ho])
           |box=>exact dflt (by simp only[put1,hq,ho])
           |map=>exact dflt (by simp only[put1,hq,ho])
           | row dp et' d2 =>
             cases dp with
             |false=>exact dflt (by simp only[put1,hq,ho])
             | true =>
               cases hp:Γ.obj par with
               |none=>exact dflt (by simp only[put1,hq,ho,hp])
               | some yp =>
                 obtain⟨gp,obp⟩:=yp
                 cases gp with
                 |cons=>exact dflt (by simp only[put1,hq,ho,hp])
                 | nil =>
                   cases obp with
                   |view=>exact dflt (by simp only[put1,hq,ho,hp])
                   |box=>exact dflt (by simp only[put1,hq,ho,hp])
                   |map=>exact dflt (by simp only[put1,hq,ho,hp])
                   | row dpp pet pd' =>
                     cases dpp with
                     |false=>exact dflt (by simp only[put1,hq,ho,hp])
                     | true =>
                       cases hti:tab.get pet with
                       |none=>exact dflt (by simp only[put1,hq,ho,hp,hti])
                       | some ti =>
                         by_cases hc:(d==holeE o&&pd==pd'&&Nat.beq et et'&&decide (o≠par)&&decide (o≠q)&&decide (q≠par)&&Nat.blt j ti.size)=true
                         · have e:put1 tab Γ nx o q=([(q,none),(o,none),(par,some ([],.row true pet (.var nx))),(o,some ([],.view par (.var nx) i j et d2))]++sibs Γ par pd i j nx [o,q] (Γ.ob.map (·.1)),
                            [([],.set nx (cellPut ti.size j pd i d2))],nx+1):=by
                            simp only[put1,hq,ho,hp,hti,if_pos hc]
                           rw[e]at hS hfx ⊢
                           simp only[Bool.and_eq_true,beq_iff_eq,decide_eq_true_eq]at hc
                           obtain⟨⟨⟨⟨⟨⟨c1,c2⟩,c3⟩,c4⟩,c5⟩,c6⟩,c7⟩:=hc
                           have c3:=Nat.eq_of_beq_eq_true c3
                           subst c1 c2 c3
                           have c7:j<ti.size:=Nat.le_of_ble_eq_true c7
                           have hx:=hS ([],.set nx (cellPut ti.size j pd i d2)) (by simp) trivial
                           obtain⟨C1,q1,q2⟩:=h.putV hq hp ho hti hx (hfx nx (Nat.le_refl _) (Nat.lt_succ_self _)) c4 c5 c6
                           obtain⟨C2,r1,r2⟩:=h.sibsW (kn':=kn.addV nx) ⟨fun _=>id,fun _=>.inl⟩ hp hti hx (.inr rfl) c7 (not:=[o,q]) (fun _ _ _ _ _ _ _ _ _=>rfl) (Γ.ob.map (·.1)) _ C1 q1 (fun o' _=>q2 o') (by
                            rw[Gam.obj_setOb_ne _ _ c4,Gam.obj_setOb_self])
                           refine⟨C2,kn.addV nx,?_,fun o'=>?_,⟨fun _=>id,fun _=>.inl⟩,fun _=>id,fun x hx=>?_,Nat.le_succ _⟩
                           ·rw[Gam.appOb_append];exact r1
                           · obtain⟨y1,y2,y3⟩:=r2 o'
                             obtain⟨z1,z2,z3⟩:=q2 o'
                             exact⟨y1.trans z1,y2.trans z2,y3.trans z3⟩
                           · rcases hx with hx|hx
                             ·exact .inl hx
                             ·exact .inr (by dsimp only;omega)
                         ·exact dflt (by simp only[put1,hq,ho,hp,hti,if_neg hc])
theorem zcA {I:Nat->List T->List T->Prop}:∀(os:List Nat) {Γ:Gam} {nx no:Nat} {C:Ctx} {kn:Kn} (h:Rel tab Γ ρ tm w C kn Wr w0) {up:List Upd} {si:List (Grd × SI)} {ties:List (Nat × Nat)} {nx2 no2:Nat}
 (ht:takes tab os Γ nx no=some (up,si,ties,nx2,no2)) (hS:HoldsS I ρ si) (hfx:∀x,nx<=x->x<nx2->¬kn.v x) (hfo:∀o,no<=o->o<no2->¬kn.o o),
 nx<=nx2/\no<=no2/\∃C' kn',Rel tab (Γ.appOb up) ρ tm w C' kn' Wr w0/\(∀o',kn.o o'->C'.A o'=C.A o'/\C'.N o'=C.N o'/\C'.K o'=C.K o')/\kn.le kn' /\
  (∀o',kn'.o o'->kn.o o'\/(no<=o'/\o'<no2))/\(∀x,kn'.v x->kn.v x\/(nx<=x/\x<nx2)) /\
  ∀t∈ties,kn'.o t.1/\kn'.o t.2/\t.1<no2/\t.2<no2/\C'.A t.2=C'.A t.1/\C'.N t.2=C'.N t.1/\C'.K t.2=C'.K t.1
 | [], Γ, nx, no, C, kn, h, up, si, ties, nx2, no2, ht, hS, hfx, hfo => by
   cases ht
   exact⟨Nat.le_refl _,Nat.le_refl _,C,kn,h,fun _ _=>⟨rfl,rfl,rfl⟩,Kn.le.refl _,fun _=>.inl,fun _=>.inl,fun t ht=>by cases ht⟩
 | o :: os, Γ, nx, no, C, kn, h, up, si, ties, nx2, no2, ht, hS, hfx, hfo => by
   simp only[takes]at ht
   split at ht
   case h_2=>cases ht
   rename_i up1 si1 h1
   split at ht
   case h_2=>cases ht
   rename_i up2 si2 ties2 nx3 no3 h2
   cases ht
   have hS1:HoldsS I ρ si1:=fun x hx=>hS x (List.mem_append_left _ hx)
   have hS2:HoldsS I ρ si2:=fun x hx=>hS x (List.mem_append_right _ hx)
   -- how far the numbers go
   have hle:nx+2<=nx2/\no+1<=no2:=by
    clear hS hfx hfo hS1 hS2 h h1
    revert Γ up1 h2
    have key:∀(os:List Nat) (Γ:Gam) (nx no:Nat) (x:List Upd × List (Grd × SI) × List (Nat × Nat) × Nat × Nat),takes tab os Γ nx no=some x->nx<=x.2.2.2.1/\no<=x.2.2.2.2:=by
     intro os
     induction os with
     |nil=>intro Γ nx no x hx;cases hx;exact⟨Nat.le_refl _,Nat.le_refl _⟩
     | cons o os ih =>
       intro Γ nx no x hx
       simp only[takes]at hx
       split at hx
       case h_2=>cases hx
       split at hx
       case h_2=>cases hx
       rename_i hy
       cases hx
       have:=ih _ _ _ _ hy
       dsimp only at this ⊢
       omega
    intro Γ up1 h2
    exact key _ _ _ _ _ h2
   obtain⟨C1,q1,q2,q3,q4,q5,q6,q7⟩:=zhz h h1 hS1 (hfx nx (Nat.le_refl _) (by omega)) (hfx (nx+1) (by omega) (by omega)) (hfo no (Nat.le_refl _) (by omega))
   obtain⟨l1,l2,C2,kn2,r1,r2,r3,r4,r5,r6⟩:=zcA os q1 h2 hS2
    (fun x hx1 hx2 hk=>by
     rcases hk with (hk|hk)|hk
     ·exact hfx x (by omega) hx2 hk
     ·omega
     ·omega)
    (fun x hx1 hx2 hk=>by
     rcases hk with hk|hk
     ·exact hfo x (by omega) hx2 hk
     ·omega)
   refine⟨by omega,by omega,C2,kn2,by rw[Gam.appOb_append];exact r1,fun o' ho'=>?_,⟨fun x hx=>r3.1 x (.inl hx),fun x hx=>r3.2 x (.inl (.inl hx))⟩,fun x hx=>?_,fun x hx=>?_,fun t ht=>?_⟩
   · obtain⟨y1,y2,y3⟩:=r2 o' (.inl ho')
     obtain⟨z1,z2,z3⟩:=q2 o' ho'
     exact⟨y1.trans z1,y2.trans z2,y3.trans z3⟩
   · rcases r4 x hx with (hk|hk)|hk
     ·exact .inl hk
     ·exact .inr (by omega)
     ·exact .inr (by omega)
   · rcases r5 x hx with ((hk|hk)|hk)|hk
     ·exact .inl hk
     ·exact .inr (by omega)
     ·exact .inr (by omega)
     ·exact .inr (by omega)
   · rcases List.mem_append.1 ht with ht|ht
     ·exact r6 t ht
     · simp only[List.mem_singleton]at ht
       subst ht
       obtain⟨y1,y2,y3⟩:=r2 no (.inr rfl)
       obtain⟨z1,z2,z3⟩:=r2 o (.inl q6)
       exact⟨r3.1 o (.inl q6),r3.1 no (.inr rfl),by dsimp only;omega,by dsimp only;omega,by rw[y1,z1];exact q3,by rw[y2,z2];exact q4,by rw[y3,z3];exact q5⟩
theorem zex:∀(ties:List (Nat × Nat)) (Γ:Gam) (nx:Nat),nx<=(puts tab ties Γ nx).2.2
 |[],Γ,nx=>Nat.le_refl _
 | (o, q) :: r, Γ, nx => by
   simp only[puts]
   refine Nat.le_trans ?_ (zex r _ _)
   unfold put1
   repeat' split
   all_goals first|exact Nat.le_refl _|exact Nat.le_succ _
theorem zd4 {I:Nat->List T->List T->Prop}:∀(ties:List (Nat × Nat)) {Γ:Gam} {nx:Nat} {C:Ctx} {kn:Kn} (h:Rel tab Γ ρ tm w C kn Wr w0) (hS:HoldsS I ρ (puts tab ties Γ nx).2.1)
 (hfx:∀x,nx<=x->x<(puts tab ties Γ nx).2.2->¬kn.v x),
 ∃ C' kn', Rel tab (Γ.appOb (puts tab ties Γ nx).1) ρ tm w C' kn' Wr w0 /\ (∀ o', C'.A o' = C.A o' /\ C'.N o' = C.N o' /\ C'.K o' = C.K o') /\ kn.le kn' /\ (∀ o', kn'.o o' -> kn.o o') /\
   (∀x,kn'.v x->kn.v x\/(nx<=x/\x<(puts tab ties Γ nx).2.2))
 |[],Γ,nx,C,kn,h,hS,hfx=>⟨C,kn,h,fun _=>⟨rfl,rfl,rfl⟩,Kn.le.refl _,fun _=>id,fun _=>.inl⟩
 | (o, q) :: r, Γ, nx, C, kn, h, hS, hfx => by
   simp only[puts]at hS hfx ⊢
   have hl:=zex (tab:=tab) r (Γ.appOb (put1 tab Γ nx o q).1) (put1 tab Γ nx o q).2.2
   obtain⟨C1,kn1,q1,q2,q3,q4,q5,q6⟩:=ziK (nx:=nx) h (fun x hx=>hS x (List.mem_append_left _ hx)) (fun x hx1 hx2=>hfx x hx1 (by omega))
   obtain⟨C2,kn2,r1,r2,r3,r4,r5⟩:=zd4 r q1 (fun x hx=>hS x (List.mem_append_right _ hx)) (fun x hx1 hx2 hk=>by
    rcases q5 x hk with hk|hk
    ·exact hfx x (by omega) hx2 hk
    ·omega)
   refine⟨C2,kn2,by rw[Gam.appOb_append];exact r1,fun o'=>?_,⟨fun x hx=>r3.1 x (q3.1 x hx),fun x hx=>r3.2 x (q3.2 x hx)⟩,fun x hx=>q4 x (r4 x hx),fun x hx=>?_⟩
   · obtain⟨z1,z2,z3⟩:=q2 o'
     obtain⟨u1,u2,u3⟩:=r2 o'
     exact⟨u1.trans z1,u2.trans z2,u3.trans z3⟩
   · rcases r5 x hx with hk|hk
     · rcases q5 x hk with hk|hk
       ·exact .inl hk
       ·exact .inr (by omega)
     ·exact .inr (by omega)
theorem zcZ:∀(l:List Upd) (Γ:Gam) (t:Nat) (x:Grd × SV),(Γ.put t x).appOb l=(Γ.appOb l).put t x
 |[],Γ,t,x=>rfl
 |(o,some y)::r,Γ,t,x=>by simp only[Gam.appOb];exact zcZ r (Γ.setOb o y) t x
 |(o,none)::r,Γ,t,x=>by simp only[Gam.appOb];exact zcZ r (Γ.delOb o) t x
theorem zhD (Γ:Gam)(G:Grd)(dst:Option Tmp)(r:Res)(l:List Upd)(r':Res)(h1:r'.ob=r.ob++l)(h2:r'.sv=r.sv):Γ.after G dst r'=(Γ.after G dst r).appOb l:=by
 unfold Gam.after
 cases dst with
 |none=>simp only[h1,Gam.appOb_append]
 |some t=>simp only[h1,h2,Gam.appOb_append,zcZ]
theorem zjc (Γ:Gam)(G:Grd)(dst:Option Tmp)(r:Res)(l:List Upd)(r':Res)(h1:r'.ob=l++r.ob)(h2:r'.sv=r.sv):Γ.after G dst r'=(Γ.appOb l).after G dst r:=by
 unfold Gam.after
 cases dst with
 |none=>simp only[h1,Gam.appOb_append]
 |some t=>simp only[h1,h2,Gam.appOb_append]
theorem zcn {nt : Nat} {ops : Array Oper} {o : Oper} {r : Res} (hr : anStep0 tab sigs ops nt Γ nx no o = some (G, r)) : nx <= r.nx /\ no <= r.no := by
 unfold anStep0 at hr
 split at hr
 case h_2=>cases hr
 split at hr
 case h_2=>cases hr
 simp only at hr
 split at hr
 case isFalse=>cases hr
 rename_i hc
 simp only[Bool.and_eq_true]at hc
 have h1:=Nat.le_of_ble_eq_true hc.1.1
 have h2:=Nat.le_of_ble_eq_true hc.1.2
 split at hr
 ·cases hr;exact⟨h1,h2⟩
 · split at hr
   · rename_i r' hm
     cases hr
     unfold mergeR at hm
     split at hm
     case h_2=>cases hm
     rename_i ups sis nx' hups
     split at hm
     case isFalse=>cases hm
     cases hm
     have : ∀ (os : List Nat) (nx nx' : Nat) (ups : List (Nat × Option (Grd × Obj))) (sis : List (Grd × SI)) (Γ Γ1 : Gam) (G : Grd), mergeUpds Γ Γ1 G nx os = some (ups, sis, nx') -> nx <= nx' := by
      intro os
      induction os with
      |nil=>intro nx nx' ups sis Γ Γ1 G h;cases h;exact Nat.le_refl _
      | cons o os ih =>
        intro nx nx' ups sis Γ Γ1 G h
        simp only[mergeUpds]at h
        split at h
        · split at h
          ·exact ih _ _ _ _ _ _ _ h
          · split at h
            case h_2=>cases h
            rename_i ob sis1 nx1 hm
            split at h
            case h_2=>cases h
            rename_i l sis2 nx2 hrest
            cases h
            have h3:=ih _ _ _ _ _ _ _ hrest
            have h4 : nx <= nx1 := by
             unfold mergeOb at hm
             split at hm
             ·cases hm;exact Nat.le_refl _
             · split at hm
               · split at hm
                 ·cases hm;omega
                 ·cases hm
               · split at hm
                 · rename_i ls sis' nx2 hml
                   cases hm
                   have : ∀ (ns os ls : List Leaf) (nx nx' : Nat) (sis : List (Grd × SI)), mergeLeaves G nx ns os = some (ls, sis, nx') -> nx <= nx' := by
                    intro ns
                    induction ns with
                    |nil=>intro os ls nx nx' sis h;cases os<;>simp[mergeLeaves]at h;omega
                    | cons n ns ih2 =>
                      intro os ls nx nx' sis h
                      cases os with
                      |nil=>simp[mergeLeaves]at h
                      | cons o os =>
                        simp only[mergeLeaves]at h
                        split at h
                        · rename_i hr2
                          cases h
                          have:=ih2 _ _ _ _ _ hr2
                          omega
                        ·cases h
                   exact this _ _ _ _ _ _ hml
                 ·cases hm
               ·cases hm
            omega
        ·exact ih _ _ _ _ _ _ _ h
     exact⟨Nat.le_trans h1 (this _ _ _ _ _ _ _ _ hups),h2⟩
   ·cases hr
theorem ziq:∀(os:List Nat) (Γ:Gam) (nx no:Nat) (x:List Upd × List (Grd × SI) × List (Nat × Nat) × Nat × Nat),takes tab os Γ nx no=some x->nx<=x.2.2.2.1/\no<=x.2.2.2.2:=by
 intro os
 induction os with
 |nil=>intro Γ nx no x hx;cases hx;exact⟨Nat.le_refl _,Nat.le_refl _⟩
 | cons o os ih =>
   intro Γ nx no x hx
   simp only[takes]at hx
   split at hx
   case h_2=>cases hx
   split at hx
   case h_2=>cases hx
   rename_i hy
   cases hx
   have:=ih _ _ _ _ hy
   dsimp only at this ⊢
   omega
theorem zeJ {nt:Nat}{ops:Array Oper}{o:Oper}{r:Res}(hr:anStep tab sigs ops nt Γ nx no o=some (G,r)):nx<=r.nx/\no<=r.no:=by
 unfold anStep at hr
 split at hr
 ·exact zcn hr
 · split at hr
   · rename_i up1 si1 ties nx1 no1 ht
     split at hr
     · rename_i G' r0 h0
       have h1:=ziq _ _ _ _ _ ht
       have h2:=zcn h0
       have h3:=zex (tab:=tab) ties ((Γ.appOb up1).appOb r0.ob) r0.nx
       cases hr
       dsimp only at h1 ⊢
       omega
     ·cases hr
   ·exact zcn hr
theorem zko (Γ:Gam)(t:Nat)(x:Grd × SV)(nx o q:Nat):put1 tab (Γ.put t x) nx o q=put1 tab Γ nx o q:=by
 have hs:∀(par:Nat) (pd i:Exp) (j y:Nat) (nt:List Nat) (l:List Nat),sibs (Γ.put t x) par pd i j y nt l=sibs Γ par pd i j y nt l:=by
  intro par pd i j y nt l
  induction l with
  |nil=>rfl
  |cons a l ih=>simp only[sibs,Gam.obj_put,ih]
 unfold put1
 simp only[Gam.obj_put,hs]
 rfl
theorem zhS:∀(ties:List (Nat × Nat)) (Γ:Gam) (t:Nat) (x:Grd × SV) (nx:Nat),puts tab ties (Γ.put t x) nx=puts tab ties Γ nx
 |[],_,_,_,_=>rfl
 | (o, q) :: r, Γ, t, x, nx => by
   simp only[puts,zko,zcZ]
   rw[zhS r]
theorem zb1 {E : Nat -> Prop} {C0 : Ctx} {nt : Nat} {ops : Array Oper} {o : Oper} {a : Act} {ds : List Deferred} {r : Res} {Q : Exit -> Act -> World -> Prop} {K : Act -> World -> Prop} (hT : TabOk P tab) (h : St tab nt E C0 Γ ρ a w ds kn Wr w0) (hE : ∀ o, E o -> o < no)
 (hr:anStep tab sigs ops nt Γ nx no o=some (G,r)) (hS:HoldsS (CallOk P tab sigs) ρ r.sis) (hfo:∀o,no<=o->o<r.no->¬kn.o o) (hfx:∀x,nx<=x->x<r.nx->¬kn.v x)
 (hK:∀a' w' kn',St tab nt E C0 (Γ.after G o.dst r) ρ a' w' ds kn' Wr w0->kn.le kn'->(∀o,kn'.o o->kn.o o\/(no<=o/\o<r.no))->(∀x,kn'.v x->kn.v x\/(nx<=x/\x<r.nx))->K a' w') :
 if Region.wanted o (yielded ops a.tmps) then o.wp P a w K Q else K (a.put o.dst undef) w:=by
 unfold anStep at hr
 split at hr
 ·exact zbF hT h hE hr hS hfo hfx hK
 split at hr
 case h_2=>exact zbF hT h hE hr hS hfo hfx hK
 rename_i up1 si1 ties nx1 no1 ht
 split at hr
 case h_2=>cases hr
 rename_i G' r0 h0
 have hl0:=zcn h0
 have hl1:=ziq _ _ _ _ _ ht
 dsimp only at hl1
 have hl2:=zex (tab:=tab) ties ((Γ.appOb up1).appOb r0.ob) r0.nx
 simp only[Option.some.injEq,Prod.mk.injEq]at hr
 obtain⟨hGG,hr⟩:=hr
 subst hGG
 have e1:r.sis=si1++(r0.sis++(puts tab ties ((Γ.appOb up1).appOb r0.ob) r0.nx).2.1):=by rw[<- hr]
 have e2:r.nx=(puts tab ties ((Γ.appOb up1).appOb r0.ob) r0.nx).2.2:=by rw[<- hr]
 have e3:r.no=r0.no:=by rw[<- hr]
 have e4:r.ob=up1++(r0.ob++(puts tab ties ((Γ.appOb up1).appOb r0.ob) r0.nx).1):=by rw[<- hr]
 have e5:r.sv=r0.sv:=by rw[<- hr]
 rw[e1]at hS
 obtain⟨⟨C,h1,hkeep⟩,h2,h3,h4⟩:=h
 obtain⟨_,_,C1,kn1,q1,q2,q3,q4,q5,q6⟩:=zcA _ h1 ht (fun x hx=>hS x (List.mem_append_left _ hx)) (fun x hx1 hx2=>hfx x hx1 (by omega)) (fun x hx1 hx2=>hfo x hx1 (by omega))
 have hst:St tab nt (fun x=>E x\/∃t∈ties,x=t.1\/x=t.2) C1 (Γ.appOb up1) ρ a w ds kn1 Wr w0 :=
  ⟨⟨C1,q1,fun _ _ _=>⟨rfl,rfl,rfl⟩⟩,h2,fun t ht'=>h3 t (by rw[<- zar up1 Γ t];exact ht'),h4⟩
 refine zbF hT hst (fun x hx=>?_) h0 (fun x hx=>hS x (List.mem_append_right _ (List.mem_append_left _ hx))) (fun x hx1 hx2 hk=>?_) (fun x hx1 hx2 hk=>?_) fun a' w' kn' hst' hk1 hk2 hk3=>?_
 · rcases hx with hx|⟨t,ht',rfl|rfl⟩
   ·have:=hE x hx;omega
   ·exact (q6 t ht').2.2.1
   ·exact (q6 t ht').2.2.2.1
 · rcases q4 x hk with hk|hk
   ·exact hfo x (by omega) (by omega) hk
   ·omega
 · rcases q5 x hk with hk|hk
   ·exact hfx x (by omega) (by omega) hk
   ·omega
 · obtain⟨⟨C2,r1,r2⟩,s2,s3,s4⟩:=hst'
   have hobeq:(Γ.appOb up1).after G' o.dst r0=(Γ.appOb up1).after G' o.dst r0:=rfl
   -- the puts look at objects alone
   have hputs:puts tab ties ((Γ.appOb up1).after G' o.dst r0) r0.nx=puts tab ties ((Γ.appOb up1).appOb r0.ob) r0.nx:=by
    cases hd:o.dst with
    |none=>rfl
    |some t=>exact zhS ties _ t _ _
   obtain⟨C3,kn3,p1,p2,p3,p4,p5⟩:=zd4 (I:=CallOk P tab sigs) ties (nx:=r0.nx) r1 (by rw[hputs];exact fun x hx=>hS x (List.mem_append_right _ (List.mem_append_right _ hx))) (fun x hx1 hx2 hk=>by
    rw[hputs,<- e2]at hx2
    rcases hk3 x hk with hk|hk
    · rcases q5 x hk with hk|hk
      ·exact hfx x (by omega) (by omega) hk
      ·omega
    ·omega)
   rw[hputs]at p1 p5
   have hΓ:Γ.after G' o.dst r=((Γ.appOb up1).after G' o.dst r0).appOb (puts tab ties ((Γ.appOb up1).appOb r0.ob) r0.nx).1:=by
    rw[<- zhD (Γ.appOb up1) G' o.dst r0 _ ⟨r0.sv,r0.ob++(puts tab ties ((Γ.appOb up1).appOb r0.ob) r0.nx).1,r0.sis,r0.nx,r0.no⟩ rfl rfl]
    exact zjc Γ G' o.dst _ up1 r e4 e5
   refine hK a' w' kn3 ⟨⟨C3,by rw[hΓ];exact p1,fun x hx hk=>?_⟩,s2,fun t ht'=>?_,s4⟩ ⟨fun x hx=>p3.1 x (hk1.1 x (q3.1 x hx)),fun x hx=>p3.2 x (hk1.2 x (q3.2 x hx))⟩ (fun x hx=>?_) (fun x hx=>?_)
   · obtain⟨y1,y2,y3⟩:=p2 x
     have hkx:kn.o x:=by
      rcases hk2 x (p4 x hk) with hk|hk
      · rcases q4 x hk with hk|hk
        ·exact hk
        ·have:=hE x hx;omega
      ·have:=hE x hx;omega
     obtain⟨z1,z2,z3⟩:=r2 x (.inl hx) (p4 x hk)
     obtain⟨u1,u2,u3⟩:=q2 x hkx
     obtain⟨v1,v2,v3⟩:=hkeep x hx hkx
     exact⟨y1.trans (z1.trans (u1.trans v1)),y2.trans (z2.trans (u2.trans v2)),y3.trans (z3.trans (u3.trans v3))⟩
   · rw[hΓ,zar]at ht'
     exact s3 t ht'
   · rcases hk2 x (p4 x hx) with hk|hk
     · rcases q4 x hk with hk|hk
       ·exact .inl hk
       ·exact .inr (by omega)
     ·exact .inr (by omega)
   · rcases p5 x hx with hk|hk
     · rcases hk3 x hk with hk|hk
       · rcases q5 x hk with hk|hk
         ·exact .inl hk
         ·exact .inr (by omega)
       ·exact .inr (by omega)
     ·rw[<- e2]at hk;exact .inr (by omega)
end
end Gp
namespace Gp
open Go
deriving instance DecidableEq for SI
structure Row where
 G:Grd
 r:Res
 nx:Nat
 no:Nat
 dst:Option Tmp
 deriving Repr,Inhabited
def Gam.afterR(Γ:Gam)(R:Row):Gam:=Γ.after R.G R.dst R.r
def anSeq (tab:Tab)(sigs:List Sig)(ops:Array Oper)(nt:Nat):List Oper->Gam->Nat->Nat->Option (List Row × Gam × Nat × Nat)
 |[],Γ,nx,no=>some ([],Γ,nx,no)
 | o :: l, Γ, nx, no => match anStep tab sigs ops nt Γ nx no o with
   | some (G, r) => match anSeq tab sigs ops nt l (Γ.after G o.dst r) r.nx r.no with
     |some (rs,Γ',nx',no')=>some (⟨G,r,nx,no,o.dst⟩::rs,Γ',nx',no')
     |none=>none
   |none=>none
def sisOf:List Row->List (Grd × SI)
 |[]=>[]
 |R::l=>R.r.sis++sisOf l
section
variable {tab:Tab}{Γ:Gam}{ρ ρ':Env}{tm:Array Value}{w w':World}{C C1 Cx:Ctx}{kn kn':Kn}{Wr:CS}{w0:World}{P:Program}{G:Grd}{nx no nb:Nat}{obs:Obs}{S:Sig}{sigs:List Sig}
def Kn.below (kn:Kn)(nx no:Nat):Prop:=(∀o,kn.o o->o<no)/\(∀x,kn.v x->x<nx)
theorem HoldsS.left{I:Nat->List T->List T->Prop}{a b:List (Grd × SI)}(h:HoldsS I ρ (a++b)):HoldsS I ρ a:=fun x hx=>h x (List.mem_append_left _ hx)
theorem HoldsS.right{I:Nat->List T->List T->Prop}{a b:List (Grd × SI)}(h:HoldsS I ρ (a++b)):HoldsS I ρ b:=fun x hx=>h x (List.mem_append_right _ hx)
theorem zeF {E : Nat -> Prop} {C0 : Ctx} {nt : Nat} {ops : Array Oper} {ds : List Deferred} {Q : Exit -> Act -> World -> Prop} (hT : TabOk P tab) :
 ∀ (l : List Oper) (i : Nat) {Γ : Gam} {nx no : Nat} {rs : List Row} {Γ' : Gam} {nx' no' : Nat} {kn : Kn} {a : Act} {w : World}, (∀ j, l[j]? = ops[i + j]?) -> anSeq tab sigs ops nt l Γ nx no = some (rs, Γ', nx', no') ->
   HoldsS (CallOk P tab sigs) ρ (sisOf rs)->St tab nt E C0 Γ ρ a w ds kn Wr w0->(∀o,E o->o<no)->kn.below nx no ->
   (∀a' w' kn',St tab nt E C0 Γ' ρ a' w' ds kn' Wr w0->kn'.below nx' no'->Q .normal a' w')->wpOps P ops Q (List.range' i l.length) a w
 | [], i, Γ, nx, no, rs, Γ', nx', no', kn, a, w, hl, hr, hS, hst, hE, hkn, hQ => by
   cases hr
   exact hQ a w kn hst hkn
 | o :: l, i, Γ, nx, no, rs, Γ', nx', no', kn, a, w, hl, hr, hS, hst, hE, hkn, hQ => by
   simp only[anSeq]at hr
   split at hr
   case h_2=>cases hr
   rename_i G r hstep
   split at hr
   case h_2=>cases hr
   rename_i rs' Γ2 nx2 no2 hrest
   cases hr
   have hi:ops[i]? = some o:=by have:=hl 0;simpa using this.symm
   rw[List.length_cons,List.range'_succ]
   simp only[wpOps,hi]
   have hle:=zeJ hstep
   have := zb1 (K := wpOps P ops Q (List.range' (i + 1) l.length)) (Q := Q) hT hst hE hstep hS.left (fun o h1 h2 hk => by have := hkn.1 o hk; omega) (fun x h1 h2 hk => by have := hkn.2 x hk; omega)
    (fun a' w' kn' h1 h2 h3 h4=>zeF hT l (i+1) (fun j=>by have:=hl (j+1);rw[show i+1+j=i+(j+1) by omega,<- this];simp) hrest hS.right h1 (fun o ho=>by have:=hE o ho;omega)
     ⟨fun o ho => by rcases h3 o ho with h | h
                     ·have:=hkn.1 o h;omega
                     · omega, fun x hx => by rcases h4 x hx with h | h
                                             ·have:=hkn.2 x h;omega
                                             ·omega⟩ hQ)
   split
   ·rename_i hw;rw[if_pos hw]at this;exact .inl this
   ·rename_i hw;rw[if_neg hw]at this;exact this
def GEq (Γ Γ':Gam):Prop:=(∀t,Γ'.get t=Γ.get t)/\(∀o,Γ'.obj o=Γ.obj o)
theorem GEq.refl(Γ:Gam):GEq Γ Γ:=⟨fun _=>rfl,fun _=>rfl⟩
theorem GEq.trans{a b c:Gam}(h:GEq a b)(k:GEq b c):GEq a c:=⟨fun t=>(k.1 t).trans (h.1 t),fun o=>(k.2 o).trans (h.2 o)⟩
theorem GEq.symm{a b:Gam}(h:GEq a b):GEq b a:=⟨fun t=>(h.1 t).symm,fun o=>(h.2 o).symm⟩
theorem zdm:∀{l:List (Nat × Option (Grd × Obj))} {o:Nat} {x:Option (Grd × Obj)},lastOf l o=some x->∃y∈l,y.1=o
 |[],o,x,h=>by simp[lastOf]at h
 | (k, y) :: l, o, x, h => by
   simp only[lastOf]at h
   split at h
   · rename_i z hz
     obtain⟨y,h1,h2⟩:=zdm hz
     exact⟨y,List.mem_cons_of_mem _ h1,h2⟩
   · split at h
     ·rename_i e;exact⟨(k,y),by simp,Nat.eq_of_beq_eq_true e⟩
     ·cases h
theorem zbn (Γ:Gam)(R:Row)(t:Nat):(Γ.afterR R).get t=if R.dst=some t then some (R.G,R.r.sv) else Γ.get t:=by
 unfold Gam.afterR Gam.after
 cases hd:R.dst with
 |none=>simp[zar]
 | some d =>
   by_cases e:d=t
   ·subst e;simp[Gam.get_put_self]
   · simp only[Gam.get_put_ne _ _ e,zar]
     rw[if_neg (by simpa using e)]
theorem zbl (Γ:Gam)(R:Row)(o:Nat):(Γ.afterR R).obj o=match lastOf R.r.ob o with|some x=>x|none=>Γ.obj o:=by
 unfold Gam.afterR Gam.after
 cases hd:R.dst with
 |none=>exact za0 ..
 |some d=>exact za0 ..
theorem GEq.after{a b:Gam}(h:GEq a b)(R:Row):GEq (a.afterR R) (b.afterR R) :=
 ⟨fun t=>by rw[zbn,zbn,h.1],fun o=>by rw[zbl,zbl,h.2]⟩
def keysDisj (R S:Row):Bool :=
 (match R.dst,S.dst with
  |some a,some b=>!Nat.beq a b
  |_,_=>true)&&R.r.ob.all fun x=>S.r.ob.all fun y=>!Nat.beq x.1 y.1
theorem GEq.comm{R S:Row}(h:keysDisj R S=true)(Γ:Gam):GEq ((Γ.afterR S).afterR R) ((Γ.afterR R).afterR S):=by
 simp only[keysDisj,Bool.and_eq_true,List.all_eq_true]at h
 obtain⟨h1,h2⟩:=h
 refine⟨fun t=>?_,fun o=>?_⟩
 · rw[zbn,zbn,zbn,zbn]
   by_cases e1:R.dst=some t
   · by_cases e2:S.dst=some t
     ·rw[e1,e2]at h1;simp at h1
     ·simp[e1,e2]
   ·simp[e1]
 · rw[zbl,zbl,zbl,zbl]
   cases hR:lastOf R.r.ob o with
   |none=>rfl
   | some x =>
     cases hS:lastOf S.r.ob o with
     |none=>rfl
     | some y =>
       obtain⟨u,u1,u2⟩:=zdm hR
       obtain⟨v,v1,v2⟩:=zdm hS
       have:=h2 u u1 v v1
       rw[u2,v2]at this;simp at this
def gamOf:List Row->Nat->Nat->Gam->Gam
 |[],_,_,Γ=>Γ
 |R::l,i,m,Γ=>gamOf l (i+1) m (if m.testBit i then Γ.afterR R else Γ)
theorem zeQ:∀(l:List Row) (i m:Nat) {a b:Gam},GEq a b->GEq (gamOf l i m a) (gamOf l i m b)
 |[],_,_,_,_,h=>h
 | R :: l, i, m, a, b, h => by
   simp only[gamOf]
   refine zeQ l _ _ ?_
   split
   ·exact h.after R
   ·exact h
def apartAll (R:Row):List Row->Nat->Nat->Bool
 |[],_,_=>true
 |S::l,i,m=>(!m.testBit i||keysDisj R S)&&apartAll R l (i+1) m
theorem zfE {R:Row}:∀(l:List Row) (i m:Nat) (Γ:Gam),apartAll R l i m=true->GEq ((gamOf l i m Γ).afterR R) (gamOf l i m (Γ.afterR R))
 |[],_,_,Γ,_=>GEq.refl _
 | S :: l, i, m, Γ, h => by
   simp only[apartAll,Bool.and_eq_true,Bool.or_eq_true,Bool.not_eq_true']at h
   simp only[gamOf]
   refine GEq.trans (zfE l (i+1) m _ h.2) (zeQ l _ _ ?_)
   split
   · rename_i hb
     have:=h.1.resolve_left (by simp[hb])
     exact GEq.comm this Γ
   ·exact GEq.refl _
theorem zfr:∀(l:List Row) (i m m':Nat) (Γ:Gam),(∀j,i<=j->m'.testBit j=m.testBit j)->gamOf l i m' Γ=gamOf l i m Γ
 |[],_,_,_,_,_=>rfl
 | S :: l, i, m, m', Γ, h => by
   simp only[gamOf]
   rw[h i (Nat.le_refl _),zfr l (i+1) m m' _ fun j hj=>h j (by omega)]
def addBit (m i:Nat):Nat:=m ||| (1 <<< i)
theorem zao (m i j:Nat):(addBit m i).testBit j=(m.testBit j||decide (i=j)):=by
 unfold addBit
 rw[Nat.testBit_or,Nat.one_shiftLeft,Nat.testBit_two_pow]
def apartAt (R:Row)(m:Nat):List Row->Nat->Nat->Bool
 |[],_,_=>true
 |_::l,k,i=>if Nat.beq k i then apartAll R l (k+1) m else apartAt R m l (k+1) i
theorem zer {R:Row}:∀(l:List Row) (k i m:Nat) (Γ:Gam),k<=i->l[i-k]? = some R->m.testBit i=false->apartAt R m l k i=true->GEq ((gamOf l k m Γ).afterR R) (gamOf l k (addBit m i) Γ)
 |[],k,i,m,Γ,_,hl,_,_=>by simp at hl
 | S :: l, k, i, m, Γ, hk, hl, hm, ha => by
   simp only[apartAt]at ha
   simp only[gamOf,zao]
   by_cases e:k=i
   · subst e
     simp at hl;subst hl
     rw[if_pos (Nat.beq_refl _)]at ha
     simp only[hm,Bool.false_eq_true,if_false,Bool.false_or,decide_true,if_true]
     rw[zfr l (k+1) m (addBit m k) _ fun j hj=>by rw[zao];simp;omega]
     exact zfE l (k+1) m Γ ha
   · rw[if_neg (by simpa using e)]at ha
     have hd:decide (i=k)=false:=by simpa using fun h=>e h.symm
     rw[hd,Bool.or_false]
     exact zer l (k+1) i m _ (by omega) (by rw[show i-k=i-(k+1)+1 by omega]at hl;simpa using hl) hm ha
def preOf (o:Oper):List Nat:=(o.after.toList.filter (Region.binds .any)).map (·.on)
def rdy (m:Nat)(pre:List Nat):Bool:=pre.all fun j=>m.testBit j
inductive MT where
 |o
 |n (b:Bool) (l r:MT)
 deriving Repr,Inhabited
def MT.contains:MT->Nat->Bool
 |.o,_=>false
 |.n b l r,m=>if Nat.beq m 0 then b else if Nat.beq (m%2) 0 then l.contains (m / 2) else r.contains (m / 2)
def MT.allF (f:Nat->Bool):MT->Nat->Nat->Bool
 |.o,_,_=>true
 |.n b l r,a,w=>(!b||f a)&&(l.allF f a (2*w)&&r.allF f (a+w) (2*w))
def MT.all (t:MT)(f:Nat->Bool):Bool:=t.allF f 0 1
theorem MT.allF_get {f : Nat -> Bool} : ∀ {t : MT} {m a w : Nat}, t.contains m = true -> t.allF f a w = true -> f (a + m * w) = true
 |.o,_,_,_,h,_=>by simp[MT.contains]at h
 | .n b l r, m, a, w, h, k => by
   simp only[MT.contains]at h
   simp only[MT.allF,Bool.and_eq_true,Bool.or_eq_true,Bool.not_eq_true']at k
   obtain⟨k1,k2,k3⟩:=k
   by_cases h0:m=0
   · subst h0
     simp only[Nat.beq_refl,if_true]at h
     rw[h]at k1
     simpa using k1
   · rw[if_neg (by simpa using h0)]at h
     by_cases h1:m%2=0
     · rw[if_pos (by simpa using h1)]at h
       have:=MT.allF_get h k2
       rwa[show m / 2*(2*w)=m*w by rw[<- Nat.mul_assoc];congr 1;omega]at this
     · rw[if_neg (by simpa using h1)]at h
       have:=MT.allF_get h k3
       have e:m*w=w+m / 2*(2*w):=by
        rw[show m*w=(1+m / 2*2)*w by congr 1;omega,Nat.add_mul,Nat.one_mul,Nat.mul_assoc]
       rwa[Nat.add_assoc,<- e]at this
theorem MT.all_get{f:Nat->Bool}{t:MT}{m:Nat}(h:t.contains m=true)(k:t.all f=true):f m=true:=by
 have:=MT.allF_get h k
 simpa using this
def anyRow (tab:Tab)(sigs:List Sig)(ops:Array Oper)(nt:Nat)(rows:List Row)(Γm:Gam)(m:Nat)(masks:MT):List Row->List Oper->Nat->Bool
 | R :: rs, o :: os, i => (m.testBit i || !rdy m (preOf o) || ((match anStep tab sigs ops nt Γm R.nx R.no o with
     |some (G,r)=>decide (G=R.G)&&decide (r.sv=R.r.sv)&&decide (r.ob=R.r.ob)&&decide (r.sis=R.r.sis)&&Nat.beq r.nx R.r.nx&&Nat.beq r.no R.r.no
     |none=>false)&&masks.contains (addBit m i)&&apartAt R m rows 0 i))&&anyRow tab sigs ops nt rows Γm m masks rs os (i+1)
 |_,_,_=>true
def someRdy (m:Nat):List Oper->Nat->Bool
 |[],_=>false
 |o::os,i=>(!m.testBit i&&rdy m (preOf o))||someRdy m os (i+1)
def anyMask (tab:Tab)(sigs:List Sig)(ops:Array Oper)(nt:Nat)(rows:List Row)(Γ:Gam)(masks:MT)(m:Nat):Bool :=
 anyRow tab sigs ops nt rows (gamOf rows 0 m Γ) m masks rows ops.toList 0&&(Nat.beq m (2^rows.length-1)||someRdy m ops.toList 0)
def anyChk (tab:Tab)(sigs:List Sig)(ops:Array Oper)(nt:Nat)(rows:List Row)(Γ:Gam)(masks:MT):Bool :=
 masks.contains 0&&masks.all (anyMask tab sigs ops nt rows Γ masks)
end
end Gp
namespace Gp
open Go
section
variable {tab:Tab}{Γ Γ':Gam}{ρ ρ':Env}{tm:Array Value}{w w':World}{C C1 Cx:Ctx}{kn kn':Kn}{Wr:CS}{w0:World}{P:Program}{G:Grd}{nx no nx' no' nb:Nat}{obs:Obs}{S:Sig}{sigs:List Sig}
theorem St.congr{E:Nat->Prop}{C0:Ctx}{nt:Nat}{a:Act}{ds:List Deferred}(h:St tab nt E C0 Γ ρ a w ds kn Wr w0)(hg:GEq Γ Γ'):St tab nt E C0 Γ' ρ a w ds kn Wr w0:=by
 obtain⟨⟨C,h1,hk⟩,h2,h3,h4⟩:=h
 exact⟨⟨C,h1.congr hg.1 hg.2,hk⟩,h2,fun t ht=>h3 t (by rw[<- hg.1];exact ht),h4⟩
theorem zcm {nt:Nat}{ops:Array Oper}:∀(l:List Oper) {Γ:Gam} {nx no:Nat} {rs:List Row} {Γ':Gam} {nx' no':Nat},anSeq tab sigs ops nt l Γ nx no=some (rs,Γ',nx',no') ->
 rs.length=l.length/\nx<=nx'/\no<=no'/\(∀(i:Nat) (R:Row),rs[i]? = some R->nx<=R.nx/\R.r.nx<=nx'/\no<=R.no/\R.r.no<=no'/\∃o:Oper,l[i]? = some o/\R.dst=o.dst) /\
 (∀(i j:Nat) (R S:Row),rs[i]? = some R->rs[j]? = some S->i<j->R.r.nx<=S.nx/\R.r.no<=S.no)
 | [], Γ, nx, no, rs, Γ', nx', no', h => by
   cases h
   exact⟨rfl,Nat.le_refl _,Nat.le_refl _,fun i R hi=>by simp at hi,fun i j R S hi=>by simp at hi⟩
 | o :: l, Γ, nx, no, rs, Γ', nx', no', h => by
   simp only[anSeq]at h
   split at h
   case h_2=>cases h
   rename_i G r hstep
   split at h
   case h_2=>cases h
   rename_i rs' Γ2 nx2 no2 hrest
   cases h
   obtain⟨h1,h2,h3,h4,h5⟩:=zcm l hrest
   obtain⟨l1,l2⟩:=zeJ hstep
   refine⟨by simp[h1],by omega,by omega,fun i R hi=>?_,fun i j R S hi hj hij=>?_⟩
   · cases i with
     |zero=>simp at hi;subst hi;exact⟨Nat.le_refl _,h2,Nat.le_refl _,h3,o,rfl,rfl⟩
     | succ i =>
       obtain⟨a1,a2,a3,a4,o',a5,a6⟩:=h4 i R (by simpa using hi)
       exact⟨by omega,a2,by omega,a4,o',by simpa using a5,a6⟩
   · cases j with
     |zero=>omega
     | succ j =>
       cases i with
       | zero =>
         simp at hi;subst hi
         obtain⟨a1,a2,a3,a4,_⟩:=h4 j S (by simpa using hj)
         exact⟨a1,a3⟩
       |succ i=>exact h5 i j R S (by simpa using hi) (by simpa using hj) (by omega)
theorem zeT {nt:Nat}{ops:Array Oper}:∀(l:List Oper) {Γ:Gam} {nx no:Nat} {rs:List Row} {Γ':Gam} {nx' no':Nat} (k m:Nat),anSeq tab sigs ops nt l Γ nx no=some (rs,Γ',nx',no') ->
 (∀i,k<=i->i<k+rs.length->m.testBit i=true)->gamOf rs k m Γ=Γ'
 |[],Γ,nx,no,rs,Γ',nx',no',k,m,h,hm=>by cases h;rfl
 | o :: l, Γ, nx, no, rs, Γ', nx', no', k, m, h, hm => by
   simp only[anSeq]at h
   split at h
   case h_2=>cases h
   rename_i G r hstep
   split at h
   case h_2=>cases h
   rename_i rs' Γ2 nx2 no2 hrest
   cases h
   simp only[gamOf]
   rw[if_pos (hm k (Nat.le_refl _) (by simp))]
   exact zeT l (k+1) m hrest fun i h1 h2=>hm i (by omega) (by simp;omega)
theorem zdx:∀(l:List Row) (k:Nat) (Γ:Gam),gamOf l k 0 Γ=Γ
 |[],_,_=>rfl
 |R::l,k,Γ=>by simp only[gamOf,Nat.zero_testBit,Bool.false_eq_true,if_false];exact zdx l (k+1) Γ
theorem zc6 {nt:Nat}{ops:Array Oper}{rows:List Row}{Γm:Gam}{m:Nat}{masks:MT}:∀(rs:List Row) (os:List Oper) (k:Nat),anyRow tab sigs ops nt rows Γm m masks rs os k=true ->
 ∀ (i : Nat) (R : Row) (o : Oper), rs[i]? = some R -> os[i]? = some o -> m.testBit (k + i) = false -> rdy m (preOf o) = true ->
   anStep tab sigs ops nt Γm R.nx R.no o=some (R.G,R.r)/\masks.contains (addBit m (k+i))=true/\apartAt R m rows 0 (k+i)=true
 |[],os,k,_,i,R,o,hR,_,_,_=>by simp at hR
 |R0::rs,[],k,_,i,R,o,_,ho,_,_=>by simp at ho
 | R0 :: rs, o0 :: os, k, h, i, R, o, hR, ho, hm, hr => by
   simp only[anyRow,Bool.and_eq_true]at h
   obtain⟨h1,h2⟩:=h
   cases i with
   | zero =>
     simp at hR ho;subst hR;subst ho
     rw[Nat.add_zero]at hm ⊢
     simp only[hm,hr,Bool.not_true,Bool.false_or,Bool.and_eq_true]at h1
     obtain⟨⟨h3,h4⟩,h5⟩:=h1
     refine⟨?_,h4,h5⟩
     split at h3
     · rename_i G r hst
       simp only[Bool.and_eq_true,decide_eq_true_eq]at h3
       obtain⟨⟨⟨⟨⟨a1,a2⟩,a3⟩,a4⟩,a5⟩,a6⟩:=h3
       replace a5:=Nat.eq_of_beq_eq_true a5
       replace a6:=Nat.eq_of_beq_eq_true a6
       rw[hst]
       obtain⟨b1,b2,b3,b4,b5⟩:=r
       obtain⟨RG,⟨c1,c2,c3,c4,c5⟩,Rnx,Rno,Rdst⟩:=R0
       simp only at a1 a2 a3 a4 a5 a6
       subst a1;subst a2;subst a3;subst a4;subst a5;subst a6
       rfl
     ·cases h3
   | succ i =>
     have:=zc6 rs os (k+1) h2 i R o (by simpa using hR) (by simpa using ho) (by rw[show k+1+i=k+(i+1) by omega];exact hm) hr
     rw[show k+1+i=k+(i+1) by omega]at this
     exact this
theorem zcc {m:Nat}:∀(os:List Oper) (k:Nat),someRdy m os k=true->∃(i:Nat) (o:Oper),os[i]? = some o/\m.testBit (k+i)=false/\rdy m (preOf o)=true
 |[],k,h=>by simp[someRdy]at h
 | o :: os, k, h => by
   simp only[someRdy,Bool.or_eq_true,Bool.and_eq_true,Bool.not_eq_true']at h
   rcases h with h|h
   ·exact⟨0,o,rfl,h.1,h.2⟩
   · obtain⟨i,o',h1,h2,h3⟩:=zcc os (k+1) h
     exact⟨i+1,o',by simpa using h1,by rw[show k+(i+1)=k+1+i by omega];exact h2,h3⟩
def KnAt (rows:List Row)(nx no:Nat)(m:Nat)(kn:Kn):Prop :=
 (∀o,kn.o o->o<no\/∃(i:Nat) (R:Row),rows[i]? = some R/\m.testBit i=true/\R.no<=o/\o<R.r.no) /\
 (∀x,kn.v x->x<nx\/∃(i:Nat) (R:Row),rows[i]? = some R/\m.testBit i=true/\R.nx<=x/\x<R.r.nx)
def left (m:Nat):Nat->Nat
 |0=>0
 |n+1=>left m n+if m.testBit n then 0 else 1
theorem zfR {m i : Nat} (hm : m.testBit i = false) : ∀ n, i < n -> left (addBit m i) n + 1 = left m n
 |0,h=>by omega
 | n + 1, h => by
   simp only[left,zao]
   by_cases e:i=n
   · subst e
     have:∀k,k<=i->left (addBit m i) k=left m k:=by
      intro k hk
      induction k with
      |zero=>rfl
      | succ k ih =>
        simp only[left,zao]
        rw[ih (by omega)]
        have:decide (i=k)=false:=by simp;omega
        rw[this,Bool.or_false]
     rw[this i (Nat.le_refl _),hm]
     simp
   · have:=zfR hm n (by omega)
     have hd:decide (i=n)=false:=by simpa using e
     rw[hd,Bool.or_false];omega
theorem zey {m:Nat}:∀n,left m n=0->∀i,i<n->m.testBit i=true
 |0,_,i,h=>by omega
 | n + 1, hl, i, h => by
   simp only[left]at hl
   by_cases e:i=n
   · subst e
     cases hb:m.testBit i with
     |true=>rfl
     |false=>rw[hb]at hl;simp at hl
   ·exact zey n (by omega) i (by omega)
theorem ze4:∀n,left 0 n=n
 |0=>rfl
 |n+1=>by simp[left,ze4 n]
theorem zji {E:Nat->Prop}{C0:Ctx}{nt:Nat}{ops:Array Oper}{ds:List Deferred}{rows:List Row}{masks:MT}{Q:Exit->Act->World->Prop}(hT:TabOk P tab)(hcan:anSeq tab sigs ops nt ops.toList Γ nx no=some (rows,Γ',nx',no'))
 (hchk:anyChk tab sigs ops nt rows Γ masks=true) (hS:HoldsS (CallOk P tab sigs) ρ (sisOf rows)) (hE:∀o,E o->o<no)
 (hQ:∀a' w' kn',St tab nt E C0 Γ' ρ a' w' ds kn' Wr w0->kn'.below nx' no'->Q .normal a' w') :
 ∀ (fuel : Nat) (listed : Array Bool) (m : Nat) (kn : Kn) (a : Act) (w : World), masks.contains m = true -> (∀ i, listed.getD i false = m.testBit i) -> listed.size = ops.size -> left m ops.size = fuel ->
   St tab nt E C0 (gamOf rows 0 m Γ) ρ a w ds kn Wr w0->KnAt rows nx no m kn->wpAny P .any ops Q fuel listed a w:=by
 obtain⟨r1,r2,r3,r4,r5⟩:=zcm _ hcan
 have hlen:rows.length=ops.size:=by simpa using r1
 have hsis:∀(l:List Row),HoldsS (CallOk P tab sigs) ρ (sisOf l)->∀(i:Nat) (R:Row),l[i]? = some R->HoldsS (CallOk P tab sigs) ρ R.r.sis:=by
  intro l
  induction l with
  |nil=>intro _ i R hi;simp at hi
  | cons R0 l ih =>
    intro h i R hi
    cases i with
    |zero=>simp at hi;subst hi;exact h.left
    |succ i=>exact ih h.right i R (by simpa using hi)
 have hdone:∀(m:Nat) (kn:Kn) (a:Act) (w:World),(∀i,i<ops.size->m.testBit i=true)->St tab nt E C0 (gamOf rows 0 m Γ) ρ a w ds kn Wr w0->KnAt rows nx no m kn->Q .normal a w:=by
  intro m kn a w hm hst hkn
  rw[zeT _ 0 m hcan fun i _ h2=>hm i (by omega)]at hst
  refine hQ a w kn hst ⟨fun o ho=>?_,fun x hx=>?_⟩
  · rcases hkn.1 o ho with h|⟨i,R,h1,_,_,h2⟩
    ·omega
    ·have:=(r4 i R h1).2.2.2.1;omega
  · rcases hkn.2 x hx with h|⟨i,R,h1,_,_,h2⟩
    ·omega
    ·have:=(r4 i R h1).2.1;omega
 have hrd : ∀ (listed : Array Bool) (m : Nat), (∀ i, listed.getD i false = m.testBit i) -> listed.size = ops.size -> ∀ j, j ∈ Region.ready .any ops listed ↔ ∃ o : Oper, ops[j]? = some o /\ m.testBit j = false /\ rdy m (preOf o) = true := by
  intro listed m hl hsz j
  rw[mem_ready]
  constructor
  · rintro⟨h1,o,h2,h3⟩
    have hj:j<listed.size:=by have:=(Array.getElem?_eq_some_iff.1 h2).1;omega
    refine⟨o,h2,?_,?_⟩
    · rw[<- hl j]
      rw[Array.getD_eq_getD_getElem?,Array.getElem?_eq_getElem hj]at h1 ⊢
      exact h1
    · simp only[rdy,preOf,List.all_eq_true,List.mem_map,List.mem_filter]
      rintro x ⟨e,⟨he1,he2⟩,rfl⟩
      rw[<- hl];exact h3 e (by simpa using he1) he2
  · rintro⟨o,h1,h2,h3⟩
    have hj:j<listed.size:=by have:=(Array.getElem?_eq_some_iff.1 h1).1;omega
    refine⟨?_,o,h1,fun e he hb=>?_⟩
    · rw[<- hl j]at h2
      rw[Array.getD_eq_getD_getElem?,Array.getElem?_eq_getElem hj]at h2 ⊢
      exact h2
    · simp only[rdy,preOf,List.all_eq_true,List.mem_map,List.mem_filter]at h3
      rw[hl];exact h3 e.on ⟨e,⟨by simpa using he,hb⟩,rfl⟩
 simp only[anyChk,Bool.and_eq_true]at hchk
 obtain⟨hc0,hcm⟩:=hchk
 intro fuel
 induction fuel with
 | zero =>
   intro listed m kn a w hmem hl hsz hleft hst hkn
   have hfull:=zey _ hleft
   refine⟨?_,hdone m kn a w hfull hst hkn⟩
   cases hrr:Region.ready .any ops listed with
   |nil=>rfl
   | cons j js =>
     obtain⟨o,h1,h2,_⟩:=(hrd listed m hl hsz j).1 (by rw[hrr];simp)
     have hj:j<ops.size:=(Array.getElem?_eq_some_iff.1 h1).1
     rw[hfull j hj]at h2;cases h2
 | succ fuel ih =>
   intro listed m kn a w hmem hl hsz hleft hst hkn
   have hm:=MT.all_get hmem hcm
   simp only[anyMask,Bool.and_eq_true,Bool.or_eq_true]at hm
   obtain⟨hm1,hm2⟩:=hm
   refine⟨fun hnil=>?_,fun i hi=>?_⟩
   · rcases hm2 with h|h
     · have h:=Nat.eq_of_beq_eq_true h
       refine hdone m kn a w (fun i hi=>?_) hst hkn
       rw[h,Nat.testBit_two_pow_sub_one];simp;omega
     · obtain⟨i,o,h1,h2,h3⟩:=zcc _ 0 h
       have:=(hrd listed m hl hsz i).2 ⟨o,by simpa using h1,by simpa using h2,h3⟩
       rw[hnil]at this;cases this
   · obtain⟨o,h1,h2,h3⟩:=(hrd listed m hl hsz i).1 hi
     have hi':i<ops.size:=(Array.getElem?_eq_some_iff.1 h1).1
     obtain⟨R,hR⟩:∃R,rows[i]? = some R:=⟨_,List.getElem?_eq_getElem (by omega)⟩
     obtain⟨s1,s2,s3⟩:=zc6 rows ops.toList 0 hm1 i R o hR (by simpa using h1) (by simpa using h2) h3
     rw[Nat.zero_add]at s2 s3
     obtain⟨q1,q2,q3,q4,o',q5,q6⟩:=r4 i R hR
     have:o'=o:=by rw[Array.getElem?_toList,h1]at q5;cases q5;rfl
     subst this
     have hapart:∀(j:Nat) (S:Row),rows[j]? = some S->m.testBit j=true->j≠i->(R.r.no<=S.no\/S.r.no<=R.no)/\(R.r.nx<=S.nx\/S.r.nx<=R.nx):=by
      intro j S hS' _ hne
      rcases Nat.lt_or_ge i j with hlt|hge
      ·have:=r5 i j R S hR hS' hlt;exact⟨.inl this.2,.inl this.1⟩
      ·have:=r5 j i S R hS' hR (by omega);exact⟨.inr this.2,.inr this.1⟩
     have hne:∀j,m.testBit j=true->j≠i:=by rintro j hj rfl;rw[h2]at hj;cases hj
     have hstep:=zb1 (Q:=Q) (K:=wpAny P .any ops Q fuel (listed.setIfInBounds i true)) hT hst (fun o ho=>by have:=hE o ho;omega) s1 (hsis rows hS i R hR)
      (fun x h4 h5 hk=>by
       rcases hkn.1 x hk with h|⟨j,S,a1,a2,a3,a4⟩
       ·omega
       ·have:=(hapart j S a1 a2 (hne j a2)).1;omega)
      (fun x h4 h5 hk=>by
       rcases hkn.2 x hk with h|⟨j,S,a1,a2,a3,a4⟩
       ·omega
       ·have:=(hapart j S a1 a2 (hne j a2)).2;omega)
      (fun a' w' kn' k1 k2 k3 k4 => by
       refine ih (listed.setIfInBounds i true) (addBit m i) kn' a' w' s2 (fun j=>?_) (by simpa using hsz) (by have:=zfR h2 ops.size hi';omega) ?_ ⟨fun x hx=>?_,fun x hx=>?_⟩
       · rw[zao,Array.getD_eq_getD_getElem?,Array.getElem?_setIfInBounds]
         by_cases e:i=j
         · subst e
           simp[show i<listed.size by omega]
         · rw[if_neg e,<- Array.getD_eq_getD_getElem?,hl j]
           simp[e]
       · refine k1.congr ?_
         rw[<- q6]
         exact zer rows 0 i m Γ (Nat.zero_le _) (by simpa using hR) h2 s3
       · rcases k3 x hx with h|h
         · rcases hkn.1 x h with h|⟨j,S,a1,a2,a3,a4⟩
           ·exact .inl h
           ·exact .inr ⟨j,S,a1,by rw[zao,a2];rfl,a3,a4⟩
         ·exact .inr ⟨i,R,hR,by rw[zao];simp,h.1,h.2⟩
       · rcases k4 x hx with h|h
         · rcases hkn.2 x h with h|⟨j,S,a1,a2,a3,a4⟩
           ·exact .inl h
           ·exact .inr ⟨j,S,a1,by rw[zao,a2];rfl,a3,a4⟩
         ·exact .inr ⟨i,R,hR,by rw[zao];simp,h.1,h.2⟩)
     unfold wpOp
     rw[h1]
     show if Region.wanted o' (yielded ops a.tmps)=true then _ else _
     split
     ·rename_i hw;rw[if_pos hw]at hstep;exact .inl hstep
     ·rename_i hw;rw[if_neg hw]at hstep;exact hstep
end
end Gp
