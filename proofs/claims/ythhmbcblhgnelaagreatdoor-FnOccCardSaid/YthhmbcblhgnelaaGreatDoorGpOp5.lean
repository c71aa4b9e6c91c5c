import Derived.Test.YthhmbcblhgnelaaGreatDoorGpTab
import Derived.Laws.Cells
set_option linter.unusedVariables false
set_option linter.unusedSimpArgs false
namespace Gp
open Go
structure Res where
 sv:SV
 ob:List (Nat × Option (Grd × Obj))
 sis:List (Grd × SI)
 nx:Nat
 no:Nat
 deriving Repr,Inhabited
def Gam.appOb(Γ:Gam):List (Nat × Option (Grd × Obj))->Gam
 |[]=>Γ
 |(o,some x)::r=>(Γ.setOb o x).appOb r
 |(o,none)::r=>(Γ.delOb o).appOb r
def SIok (I:Nat->List T->List T->Prop)(ρ:Env):SI->Prop
 |.set x e=>ρ x=den ρ e
 |.mov x es=>∀(j:Nat) e,es[j]? = some e->ρ (x+j)=den ρ e
 |.chk e=>den ρ e = .bool true
 |.call i args x n=>∃outs,I i (args.map (den ρ)) outs/\outs.length=n/\∀(j:Nat) v,outs[j]? = some v->ρ (x+j)=v
def HoldsS (I:Nat->List T->List T->Prop)(ρ:Env)(l:List (Grd × SI)):Prop:=∀x∈l,holdsG ρ x.1->SIok I ρ x.2
def impl (G g:Grd):Bool:=g.all fun x=>G.contains x
theorem zck {ρ:Env}:∀{g:Grd},holdsG ρ g ↔ ∀x∈g,den ρ x.1 = .bool x.2
 |[]=>by simp[holdsG]
 |(e,b)::r=>by simp[holdsG,zck (g:=r)]
theorem zax {ρ:Env}{G g:Grd}(h:impl G g=true)(hG:holdsG ρ G):holdsG ρ g:=by
 rw[zck]at *
 intro x hx
 simp only[impl,List.all_eq_true]at h
 exact hG x (by simpa using h x hx)
def litLeaf:Value->Option Leaf
 |.int k n=>some (.int k (.int n))
 |.bool b=>some (.bool (.bool b))
 |.string s=>some (.str (.str s.data.toList))
 |.slice none 0 0=>some .nil
 |.pointer none=>some .dead
 |.nilFunc=>some .dead
 |.map none=>some .dead
 |_=>none
def litSV:Value->Option SV
 |.agg vs=>(vs.toList.mapM litLeaf).map fun ls=>.s (.agg ls)
 |v=>(litLeaf v).map fun l=>.s (.one l)
def rowOf (Γ:Gam)(G:Grd)(o:Nat):Option (Bool × TypeId × Exp × Bool) :=
 match Γ.obj o with
 |some (g,.row dp et d)=>if impl G g && !isPunch d then some (dp,et,d,false) else none
 | some (g, .view par pd _ _ et d) => if impl G g && !isHoleE d then
  match Γ.obj par with
  |some (gp,.row true _ pd')=>if impl G gp&&pd==pd' then some (true,et,d,true) else none
  |_=>none
   else none
 |_=>none
def normLeaf (Γ:Gam)(G:Grd):Leaf->Leaf
 | .slw o et => match rowOf Γ G o with
   |some (_,et',d,_)=>if et'=et then .sl o et (.int 0) (.un .len d) else .slw o et
   | none => match Γ.obj o with
     |some (g,.row true et' d)=>if impl G g&&Nat.beq et' et then .sl o et (.int 0) (.un .len (unpunch d)) else .slw o et
     |_=>.slw o et
 |l=>l
def normS1 (Γ:Gam)(G:Grd):S1->S1
 |.one l=>.one (normLeaf Γ G l)
 |.agg ls=>.agg (ls.map (normLeaf Γ G))
def normSV (Γ:Gam)(G:Grd):SV->SV
 |.s x=>.s (normS1 Γ G x)
 |.tup xs=>.tup (xs.map (normS1 Γ G))
def opd0 (Γ:Gam)(G:Grd):Operand->Option SV
 | .tmp t => match Γ.get t with
   |some (g,sv)=>if impl G g then some sv else none
   |none=>none
 |.const v=>litSV v
 |.func f=>some (.s (.one (.fn f [])))
 |.global _=>none
def opd (Γ:Gam)(G:Grd)(x:Operand):Option SV:=(opd0 Γ G x).map (normSV Γ G)
section
variable {tab:Tab}{Γ:Gam}{ρ:Env}{tm:Array Value}{w:World}{C:Ctx}{kn:Kn}{Wr:CS}{w0:World}{P:Program}{I:Nat->List T->List T->Prop}{G:Grd}{nx no:Nat}
theorem zcP {k:Nat->Prop}{v:Value}{l:Leaf}(h:litLeaf v=some l):LeafRel tab C k ρ l v/\∀cs,v ≠ .agg cs:=by
 unfold litLeaf at h
 split at h<;>cases h<;>refine⟨?_,fun cs=>by simp⟩
 ·exact⟨_,rfl,rfl⟩
 ·exact⟨_,rfl,rfl⟩
 ·exact⟨_,rfl,by simp⟩
 ·rfl
 ·trivial
 ·trivial
 ·trivial
theorem zaI {α β:Type}{f:α->Option β}:∀{l:List α} {r:List β},l.mapM f=some r->r.length=l.length/\∀(i:Nat) b,r[i]? = some b->∃a,l[i]? = some a/\f a=some b
 |[],r,h=>by simp at h;subst h;exact⟨rfl,fun i b h=>by simp at h⟩
 | a :: l, r, h => by
   rw[List.mapM_cons]at h
   cases hf:f a with
   |none=>rw[hf]at h;simp at h
   | some b =>
     rw[hf]at h
     cases hl:l.mapM f with
     |none=>rw[hl]at h;simp at h
     | some bs =>
       rw[hl]at h
       simp at h;subst h
       obtain⟨h1,h2⟩:=zaI hl
       refine⟨by simp[h1],fun i c hi=>?_⟩
       cases i with
       |zero=>simp at hi;subst hi;exact⟨a,rfl,hf⟩
       |succ i=>simpa using h2 i c (by simpa using hi)
theorem zhe {k:Nat->Prop}{v:Value}{x:SV}(h:litSV v=some x):SVRel tab C k ρ x v:=by
 unfold litSV at h
 split at h
 · rename_i vs
   cases hm:vs.toList.mapM litLeaf with
   |none=>rw[hm]at h;cases h
   | some ls =>
     rw[hm]at h;cases h
     obtain⟨h1,h2⟩:=zaI hm
     refine⟨vs,rfl,by simpa using h1.symm,fun i l hl=>?_⟩
     obtain⟨u,h3,h4⟩:=h2 i l hl
     exact⟨u,by simpa using h3,(zcP h4).1⟩
 · cases hm:litLeaf v with
   |none=>rw[hm]at h;cases h
   |some l=>rw[hm]at h;cases h;exact zcP hm
theorem zi1 (h:Rel tab Γ ρ tm w C kn Wr w0)(hG:holdsG ρ G){x:Operand}{sv:SV}(ho:opd0 Γ G x=some sv){ds:List Deferred} :
 SVRel tab C kn.o ρ sv (Act.eval ⟨tm,ds⟩ x):=by
 cases x with
 | tmp t =>
   simp only[opd0]at ho
   split at ho
   · rename_i g sv' hg
     split at ho
     · rename_i hi
       cases ho
       exact (h.tms t g sv hg).1 (zax hi hG)
     ·cases ho
   ·cases ho
 |const v=>exact zhe ho
 | func f =>
   simp only[opd0,Option.some.injEq]at ho;subst ho
   exact⟨⟨#[],rfl,rfl,fun i o hi=>by simp at hi⟩,fun cs=>by simp[Act.eval]⟩
 |global g=>cases ho
theorem DRel.header{dp:Bool}{et:TypeId}{rows:List T}{a:Option Addr}{n c:Nat}{F:CS}(h:DRel tab w dp (.sl et) (.slice a n c) (.list rows) F):rows.length=n/\n<=c/\(c=0\/∃b off,a=some ⟨b,off,none⟩):=by
 cases h with
 | @sl et ti rows _ n c b off vs Fs F hti hsz hn hc ha hwf hcell hrel hown hdis hdr hF=>exact⟨hn,hc,ha.elim (fun h=>.inr ⟨b,off,h⟩) .inl⟩
theorem zk0 {o:Nat}{dp:Bool}{et:TypeId}{d:Exp}(hr:rowOf Γ G o=some (dp,et,d,false)):isPunch d=false:=by
 unfold rowOf at hr
 split at hr
 · split at hr
   · rename_i hi
     cases hr
     simp only[Bool.and_eq_true,Bool.not_eq_true']at hi
     exact hi.2
   ·cases hr
 · split at hr
   · split at hr
     · split at hr
       ·cases hr
       ·cases hr
     ·cases hr
   ·cases hr
 ·cases hr
theorem zaF (h:Rel tab Γ ρ tm w C kn Wr w0)(hG:holdsG ρ G){o:Nat}{dp:Bool}{et:TypeId}{d:Exp}{vw:Bool}(hr:rowOf Γ G o=some (dp,et,d,vw)) :
 ∃ rows F' root gr obr, den ρ d = .list rows /\ DRel tab w dp (.sl et) (.slice (C.A o) (C.N o) (C.K o)) (.list rows) F' /\ Γ.obj root = some (gr, obr) /\ holdsG ρ gr /\ obr.isView = false /\ Sub F' (C.F root) /\
   (vw=false->root=o/\obr = .row dp et d):=by
 unfold rowOf at hr
 split at hr
 · rename_i g dp' et' d' ho
   split at hr
   · rename_i hi
     cases hr
     simp only[Bool.and_eq_true]at hi
     have hg:=zax hi.1 hG
     obtain⟨rows,h1,h2⟩:=(h.obs o g _ ho).2.2 hg
     exact⟨rows,_,o,g,_,h1,h2,ho,hg,rfl,Sub.refl _,fun _=>⟨rfl,rfl⟩⟩
   ·cases hr
 · rename_i g par pd i j et' d' ho
   split at hr
   · rename_i hi
     simp only[Bool.and_eq_true,Bool.not_eq_true']at hi
     obtain⟨hi,hnh⟩:=hi
     split at hr
     · rename_i gp pet pd' hp
       split at hr
       · rename_i hc
         cases hr
         simp only[Bool.and_eq_true,beq_iff_eq]at hc
         obtain⟨hc1,hc2⟩:=hc
         subst hc2
         have hgp:=zax hc1 hG
         obtain⟨m,b,base,rows,a1,a2,a3,a4,a5,⟨ti,t1,t2⟩,a8⟩:=(h.obs o g _ ho).2.2 (zax hi hG) gp pet hp hgp
         obtain⟨rs,a5,a6,a7⟩:=a5.resolve_left (fun⟨o0,c,_⟩=>by rw[c]at hnh;cases hnh)
         obtain⟨rows',r1,r2⟩:=(h.obs par gp _ hp).2.2 hgp
         rw[a4]at r1;cases r1
         rw[a3]at r2
         have hsz:tab.sz pet=ti.size:=by simp[Tab.sz,t1]
         obtain⟨v,F',g1,g2,g3⟩:=r2.get t1 a2 t2
         rw[hsz]at a7 a8
         rw[g1]at a8;cases a8
         rw[a7]at g2
         exact⟨rs,F',par,gp,_,a5,g2,hp,hgp,rfl,g3,fun h=>by cases h⟩
       ·cases hr
     ·cases hr
   ·cases hr
 ·cases hr
theorem zb8 (h:Rel tab Γ ρ tm w C kn Wr w0)(hG:holdsG ρ G){l:Leaf}{v:Value}(hl:LeafRel tab C kn.o ρ l v):LeafRel tab C kn.o ρ (normLeaf Γ G l) v:=by
 unfold normLeaf
 split
 · rename_i o et
   split
   · rename_i dp et' d vw hrow
     split
     · rename_i he
       subst he
       obtain⟨rows,F',root,gr,obr,r1,r2,_⟩:=zaF h hG hrow
       obtain⟨x1,x2,x3⟩:=r2.header
       obtain⟨hk,a,hv,ha⟩:=hl
       refine⟨hk,0,C.N o,a,C.K o,rfl,by simp only[den,U.den,r1,T.len,x1],hv,by omega,x2,by omega,?_⟩
       rcases ha with ha|⟨b,base,h1,h2⟩
       ·exact .inl ha
       ·exact .inr ⟨b,base,h1,by rw[h2];simp⟩
     ·exact hl
   · split
     · rename_i g et' d ho
       split
       · rename_i hc
         simp only[Bool.and_eq_true]at hc
         obtain⟨rows,r1,r2⟩:=(h.obs o g _ ho).2.2 (zax hc.1 hG)
         obtain⟨x1,x2,x3⟩:=r2.header
         obtain⟨hk,a,hv,ha⟩:=hl
         obtain⟨rows',u1,u2⟩:=zh8 r1
         refine⟨hk,0,C.N o,a,C.K o,rfl,by simp only[den,U.den,u1,T.len,u2,x1],hv,by omega,x2,by omega,?_⟩
         rcases ha with ha|⟨b,base,h1,h2⟩
         ·exact .inl ha
         ·exact .inr ⟨b,base,h1,by rw[h2];simp⟩
       ·exact hl
     ·exact hl
 ·exact hl
theorem zdE (h:Rel tab Γ ρ tm w C kn Wr w0)(hG:holdsG ρ G){x:S1}{v:Value}(hl:S1Rel tab C kn.o ρ x v):S1Rel tab C kn.o ρ (normS1 Γ G x) v:=by
 cases x with
 |one l=>exact⟨zb8 h hG hl.1,hl.2⟩
 | agg ls =>
   obtain⟨vs,h1,h2,h3⟩:=hl
   refine⟨vs,h1,by simpa using h2,fun i l hi=>?_⟩
   rw[List.getElem?_map]at hi
   cases hx:ls[i]? with
   |none=>rw[hx]at hi;cases hi
   | some l0 =>
     rw[hx]at hi;cases hi
     obtain⟨u,h4,h5⟩:=h3 i l0 hx
     exact⟨u,h4,zb8 h hG h5⟩
theorem zgG (h:Rel tab Γ ρ tm w C kn Wr w0)(hG:holdsG ρ G){x:SV}{v:Value}(hl:SVRel tab C kn.o ρ x v):SVRel tab C kn.o ρ (normSV Γ G x) v:=by
 cases x with
 |s x=>exact zdE h hG hl
 | tup xs =>
   obtain⟨vs,h1,h2,h3⟩:=hl
   refine⟨vs,h1,by simpa using h2,fun i l hi=>?_⟩
   rw[List.getElem?_map]at hi
   cases hx:xs[i]? with
   |none=>rw[hx]at hi;cases hi
   | some l0 =>
     rw[hx]at hi;cases hi
     obtain⟨u,h4,h5⟩:=h3 i l0 hx
     exact⟨u,h4,zdE h hG h5⟩
theorem zab (h:Rel tab Γ ρ tm w C kn Wr w0)(hG:holdsG ρ G){x:Operand}{sv:SV}(ho:opd Γ G x=some sv){ds:List Deferred} :
 SVRel tab C kn.o ρ sv (Act.eval ⟨tm,ds⟩ x):=by
 unfold opd at ho
 cases h0:opd0 Γ G x with
 |none=>rw[h0]at ho;cases ho
 | some y =>
   rw[h0]at ho;cases ho
   exact zgG h hG (zi1 h hG h0)
structure Ext(C:Ctx)(kn:Kn)(C':Ctx)(kn':Kn):Prop where
 le:kn.le kn'
 same:∀o,kn.o o->C'.A o=C.A o/\C'.N o=C.N o/\C'.K o=C.K o
theorem Ext.refl(C:Ctx)(kn:Kn):Ext C kn C kn:=⟨Kn.le.refl _,fun _ _=>⟨rfl,rfl,rfl⟩⟩
theorem Ext.set{kn':Kn}{n:Nat}{A:Option Addr}{N K:Nat}{F:CS}(hn:¬kn.o n)(hk:kn.le kn'):Ext C kn (C.set n A N K F) kn' :=
 ⟨hk,fun o ho=>by
  have:o≠n:=fun e=>hn (e▸ho)
  exact⟨(Ctx.set_ne this).1,(Ctx.set_ne this).2.1,(Ctx.set_ne this).2.2.1⟩⟩
theorem Ext.upd{kn':Kn}{n:Nat}{F:CS}(hk:kn.le kn'):Ext C kn (C.set n (C.A n) (C.N n) (C.K n) F) kn' :=
 ⟨hk,fun o ho=>by
  by_cases e:o=n
  ·subst e;exact⟨Ctx.set_self.1,Ctx.set_self.2.1,Ctx.set_self.2.2.1⟩
  ·exact⟨(Ctx.set_ne e).1,(Ctx.set_ne e).2.1,(Ctx.set_ne e).2.2.1⟩⟩
def Post (tab:Tab)(Γ:Gam)(ρ:Env)(tm:Array Value)(C:Ctx)(kn:Kn)(Wr:CS)(w0:World)(nx no:Nat)(r:Res)(v:Value)(w':World):Prop :=
 ∃ C' kn', Rel tab (Γ.appOb r.ob) ρ tm w' C' kn' Wr w0 /\ SVRel tab C' kn'.o ρ r.sv v /\ Ext C kn C' kn' /\
   (∀o,kn'.o o->kn.o o\/(no<=o/\o<r.no))/\(∀x,kn'.v x->kn.v x\/(nx<=x/\x<r.nx))
theorem Post.pure(h:Rel tab Γ ρ tm w C kn Wr w0){r:Res}{v:Value}(hob:r.ob = [])(hv:SVRel tab C kn.o ρ r.sv v):Post tab Γ ρ tm C kn Wr w0 nx no r v w :=
 ⟨C,kn,by rw[hob];exact h,hv,Ext.refl _ _,fun _=>.inl,fun _=>.inl⟩
def Yield (P:Program)(s:Sem Next)(w:World)(Q:Value->World->Prop):Prop:=∃v w',s.run P w = .ok (.value v) w'/\Q v w'
def YieldP (P:Program)(s:Sem Next)(w:World)(Q:Value->World->Prop):Prop:=∃v,(∀w1,s.run P w1 = .ok (.value v) w1)/\Q v w
def anMove (Γ:Gam)(G:Grd)(nx no:Nat)(x:Operand):Option Res:=(opd Γ G x).map fun sv=>⟨sv,[],[],nx,no⟩
theorem zdU (h:Rel tab Γ ρ tm w C kn Wr w0)(hG:holdsG ρ G){x:Operand}{r:Res}(hr:anMove Γ G nx no x=some r){ds:List Deferred} :
 Post tab Γ ρ tm C kn Wr w0 nx no r (Act.eval ⟨tm,ds⟩ x) w:=by
 unfold anMove at hr
 cases ho:opd Γ G x with
 |none=>rw[ho]at hr;cases hr
 |some sv=>rw[ho]at hr;cases hr;exact Post.pure h rfl (zab h hG ho)
def iteLeaf (e:Exp):Leaf->Leaf->Option (Exp × (Exp->Leaf))
 |.int k a,.int k' b=>if k=k' then some (.tri .ite e a b,.int k) else none
 |.bool a,.bool b=>some (.tri .ite e a b,.bool)
 |.str a,.str b=>some (.tri .ite e a b,.str)
 |_,_=>none
def anPick (Γ:Gam)(G:Grd)(nx no:Nat)(c a b:Operand):Option Res :=
 match opd Γ G c with
 | some (.s (.one (.bool e))) =>
   match opd Γ ((e,true)::G) a,opd Γ ((e,false)::G) b with
   |some (.s (.one la)),some (.s (.one lb))=>(iteLeaf e la lb).map fun(x,f)=>⟨.s (.one (f (.var nx))),[],[(G,.set nx x)],nx+1,no⟩
   |_,_=>none
 |_=>none
theorem zgP (h:Rel tab Γ ρ tm w C kn Wr w0)(hG:holdsG ρ G){c a b:Operand}{r:Res}(hr:anPick Γ G nx no c a b=some r)(hS:HoldsS I ρ r.sis){ds:List Deferred} :
 ∃t,Act.eval ⟨tm,ds⟩ c = .bool t/\Post tab Γ ρ tm C kn Wr w0 nx no r (if t then Act.eval ⟨tm,ds⟩ a else Act.eval ⟨tm,ds⟩ b) w:=by
 unfold anPick at hr
 split at hr
 case h_2=>cases hr
 rename_i e hc
 have hc':=zab h hG hc (ds:=ds)
 obtain⟨⟨t,he,hv⟩,_⟩:=hc'
 refine⟨t,hv,?_⟩
 split at hr
 case h_2=>cases hr
 rename_i la lb ha hb
 cases hi:iteLeaf e la lb with
 |none=>rw[hi]at hr;cases hr
 | some xf =>
   obtain⟨x,f⟩:=xf
   rw[hi]at hr;cases hr
   have hx:ρ nx=den ρ x:=hS (G,.set nx x) (by simp) hG
   refine Post.pure h rfl ?_
   cases t with
   | true =>
     obtain⟨h1,h2⟩:=zab (G:=(e,true)::G) h ⟨he,hG⟩ ha (ds:=ds)
     refine⟨?_,h2⟩
     unfold iteLeaf at hi
     split at hi
     · split at hi
       · rename_i hk;subst hk;cases hi
         obtain⟨n,h3,h4⟩:=h1
         exact⟨n,by rw[show den ρ (.var nx)=ρ nx from rfl,hx];simp[den,Tr.den,he,h3,T.ite],h4⟩
       ·cases hi
     · cases hi
       obtain⟨n,h3,h4⟩:=h1
       exact⟨n,by rw[show den ρ (.var nx)=ρ nx from rfl,hx];simp[den,Tr.den,he,h3,T.ite],h4⟩
     · cases hi
       obtain⟨n,h3,h4⟩:=h1
       exact⟨n,by rw[show den ρ (.var nx)=ρ nx from rfl,hx];simp[den,Tr.den,he,h3,T.ite],h4⟩
     ·cases hi
   | false =>
     obtain⟨h1,h2⟩:=zab (G:=(e,false)::G) h ⟨he,hG⟩ hb (ds:=ds)
     refine⟨?_,h2⟩
     unfold iteLeaf at hi
     split at hi
     · split at hi
       · rename_i hk;subst hk;cases hi
         obtain⟨n,h3,h4⟩:=h1
         exact⟨n,by rw[show den ρ (.var nx)=ρ nx from rfl,hx];simp[den,Tr.den,he,h3,T.ite],h4⟩
       ·cases hi
     · cases hi
       obtain⟨n,h3,h4⟩:=h1
       exact⟨n,by rw[show den ρ (.var nx)=ρ nx from rfl,hx];simp[den,Tr.den,he,h3,T.ite],h4⟩
     · cases hi
       obtain⟨n,h3,h4⟩:=h1
       exact⟨n,by rw[show den ρ (.var nx)=ρ nx from rfl,hx];simp[den,Tr.den,he,h3,T.ite],h4⟩
     ·cases hi
end
end Gp
namespace Gp
open Go
section
variable {tab:Tab}{Γ:Gam}{ρ:Env}{tm:Array Value}{w:World}{C:Ctx}{kn:Kn}{Wr:CS}{w0:World}{P:Program}{I:Nat->List T->List T->Prop}{G:Grd}{nx no:Nat}
theorem zb7 {k:IntKind}{e:Exp}{v:Value}(h:SVRel tab C kn.o ρ (.s (.one (.int k e))) v):∃n,den ρ e = .int n/\v = .int k n:=h.1
theorem zfL {e:Exp}{v:Value}(h:SVRel tab C kn.o ρ (.s (.one (.bool e))) v):∃n,den ρ e = .bool n/\v = .bool n:=h.1
theorem zeG {e:Exp}{v:Value}(h:SVRel tab C kn.o ρ (.s (.one (.str e))) v):∃n,den ρ e = .str n/\v = .string n:=h.1
theorem zbD {k:IntKind}{e:Exp}{n:Int}(h:den ρ e = .int n):SVRel tab C kn.o ρ (.s (.one (.int k e))) (.int k n):=⟨⟨n,h,rfl⟩,fun cs=>by simp⟩
theorem zc1 {e:Exp}{n:Bool}(h:den ρ e = .bool n):SVRel tab C kn.o ρ (.s (.one (.bool e))) (.bool n):=⟨⟨n,h,rfl⟩,fun cs=>by simp⟩
theorem zgE {e:Exp}{n:ByteArray}(h:den ρ e = .str n):SVRel tab C kn.o ρ (.s (.one (.str e))) (.string n):=⟨⟨n,h,rfl⟩,fun cs=>by simp⟩
def isCmp:BinOp->Bool
 |.eql|.neq|.lss|.leq|.gtr|.geq=>true
 |_=>false
def nonZero:Exp->Bool
 |.int n=>n != 0
 |_=>false
def nonNeg:Exp->Bool
 |.int n=>decide (0<=n)
 |_=>false
def anBin (tab:Tab)(Γ:Gam)(G:Grd)(nx no:Nat)(o:BinOp)(xt:TypeId)(x y:Operand):Option Res :=
 match opd Γ G x,opd Γ G y with
 | some (.s (.one (.int k a))), some (.s (.one (.int k' b))) =>
   match o with
   |.shl|.shr=>some ⟨.s (.one (.int k (.bin (.ar o k) a b))),[],if nonNeg b then [] else [(G,.chk (.bin (.cmp .geq) b (.int 0)))],nx,no⟩
   |.quo|.rem=>if k=k' then some ⟨.s (.one (.int k (.bin (.ar o k) a b))),[],if nonZero b then [] else [(G,.chk (.bin (.cmp .neq) b (.int 0)))],nx,no⟩ else none
   |.eql|.neq|.lss|.leq|.gtr|.geq=>if k=k' then some ⟨.s (.one (.bool (.bin (.cmp o) a b))),[],[],nx,no⟩ else none
   |_=>if k=k' then some ⟨.s (.one (.int k (.bin (.ar o k) a b))),[],[],nx,no⟩ else none
 | some (.s (.one (.bool a))), some (.s (.one (.bool b))) =>
   match o,tab.get xt with
   | .eql, some ti | .neq, some ti => match ti.td with
     |.bool=>some ⟨.s (.one (.bool (.bin (.bcmp o) a b))),[],[],nx,no⟩
     |_=>none
   |_,_=>none
 | some (.s (.one (.str a))), some (.s (.one (.str b))) =>
   if isCmp o then some ⟨.s (.one (.bool (.bin (.scmp o) a b))),[],[],nx,no⟩
   else match o with
   |.add=>some ⟨.s (.one (.str (.var nx))),[],[(G,.set nx (.bin .scat a b)),(G,.chk (.bin (.cmp .leq) (.un .slen (.var nx)) (.int 4611686018427387904)))],nx+1,no⟩
   |_=>none
 |_,_=>none
theorem zhn {P:Program}{w:World}{o:BinOp}{t:TypeId}{x y:Operand}{k k':IntKind}{a b:Int}:(eqGuard o t x y (.int k a) (.int k' b)).run P w = .ok () w:=by
 unfold eqGuard;cases o<;>rfl
theorem zhj {P:Program}{w:World}{o:BinOp}{t:TypeId}{x y:Operand}{a b:ByteArray}:(eqGuard o t x y (.string a) (.string b)).run P w = .ok () w:=by
 unfold eqGuard;cases o<;>rfl
theorem zhb {P:Program}{w:World}{o:BinOp}{t:TypeId}{x y:Operand}{a b:Bool}:(eqGuard o t x y (.bool a) (.bool b)).run P w = .ok () w:=by
 unfold eqGuard;cases o<;>rfl
theorem zg6 {t:TypeId}{a b:Bool}(d:Nat)(hu:P.underlying t=some .bool):(Op.equalIn (d+1) t (.bool a) (.bool b)).run P w = .ok (a==b) w:=by
 simp only[Op.equalIn,Sem.run_bind,underlying,run_program,Result.andThen_ok,hu,Sem.run_pure]
theorem zf4 {t:TypeId}{a b:Bool}(hu:P.underlying t=some .bool):(Op.equal t (.bool a) (.bool b)).run P w = .ok (a==b) w:=zg6 9999 hu
theorem zff {t:TypeId}{a b:Bool}(hu:P.underlying t=some .bool):(binOp .eql t (.bool a) (.bool b)).run P w = .ok (.bool (a==b)) w:=by
 show ((Op.equal t (.bool a) (.bool b)) >>= fun x=>pure (Value.bool x)).run P w=_
 rw[Sem.run_bind,zf4 hu];rfl
theorem zfl {t:TypeId}{a b:Bool}(hu:P.underlying t=some .bool):(binOp .neq t (.bool a) (.bool b)).run P w = .ok (.bool (!(a==b))) w:=by
 show ((Op.equal t (.bool a) (.bool b)) >>= fun x=>pure (Value.bool (!x))).run P w=_
 rw[Sem.run_bind,zf4 hu];rfl
theorem zcX {b:Exp}{n:Int}(h:HoldsS I ρ (if nonZero b then [] else [(G,.chk (.bin (.cmp .neq) b (.int 0)))]))(hG:holdsG ρ G)(hb:den ρ b = .int n):n≠0:=by
 by_cases hz:nonZero b=true
 · cases b<;>simp[nonZero]at hz
   simp[den]at hb;subst hb;exact hz
 · rw[if_neg hz]at h
   have:=h _ (List.mem_singleton_self _) hG
   simp only[SIok,den,B.den,hb,T.cmp,T.cmpI,T.bool.injEq]at this
   simpa using this
theorem zdD {b:Exp}{n:Int}(h:HoldsS I ρ (if nonNeg b then [] else [(G,.chk (.bin (.cmp .geq) b (.int 0)))]))(hG:holdsG ρ G)(hb:den ρ b = .int n):0<=n:=by
 by_cases hz:nonNeg b=true
 · cases b<;>simp[nonNeg]at hz
   simp[den]at hb;subst hb;exact hz
 · rw[if_neg hz]at h
   have:=h _ (List.mem_singleton_self _) hG
   simp only[SIok,den,B.den,hb,T.cmp,T.cmpI,T.bool.injEq,decide_eq_true_eq]at this
   exact this
theorem zdu (hT : TabOk P tab) (h : Rel tab Γ ρ tm w C kn Wr w0) (hG : holdsG ρ G) {o : BinOp} {xt yt : TypeId} {x y : Operand} {r : Res} (hr : anBin tab Γ G nx no o xt x y = some r) (hS : HoldsS I ρ r.sis) {ds : List Deferred}
 {dst:Option Tmp} {ty:TypeId} {pos:String} {aft:Array Edge} {gd:Option (Nat × Bool)} :
 YieldP P (execOp (Act.eval ⟨tm,ds⟩) ⟨dst,.binOp o xt x y yt,ty,pos,aft,gd⟩) w fun v w'=>Post tab Γ ρ tm C kn Wr w0 nx no r v w':=by
 unfold anBin at hr
 split at hr
 · rename_i k a k' b hx hy
   obtain⟨m,hm,hvm⟩:=zb7 (zab h hG hx (ds:=ds))
   obtain⟨n,hn,hvn⟩:=zb7 (zab h hG hy (ds:=ds))
   unfold YieldP
   simp only[execOp,hvm,hvn,Sem.run_bind,zhn,Result.andThen_ok,Sem.run_pure]
   cases o<;>simp only[]at hr
   case shl =>
    cases hr
    have h0:=zdD hS hG hn
    simp only[binOp,Op.shift,if_neg (show ¬n<0 by omega),Sem.run_pure,Result.andThen_ok]
    exact⟨_,fun _=>rfl,Post.pure h rfl (zbD (by simp[den,B.den,hm,hn,T.ar,T.arI]))⟩
   case shr =>
    cases hr
    have h0:=zdD hS hG hn
    simp only[binOp,Op.shift,if_neg (show ¬n<0 by omega),Sem.run_pure,Result.andThen_ok]
    exact⟨_,fun _=>rfl,Post.pure h rfl (zbD (by simp[den,B.den,hm,hn,T.ar,T.arI]))⟩
   case quo =>
    split at hr
    · rename_i hk;subst hk;cases hr
      have h0:=zcX hS hG hn
      simp only[binOp,Op.intDiv,if_neg h0,ne_eq,not_true_eq_false,if_false,Sem.run_pure,Result.andThen_ok]
      exact⟨_,fun _=>rfl,Post.pure h rfl (zbD (by simp[den,B.den,hm,hn,T.ar,T.arI]))⟩
    ·cases hr
   case rem =>
    split at hr
    · rename_i hk;subst hk;cases hr
      have h0:=zcX hS hG hn
      simp only[binOp,Op.intDiv,if_neg h0,ne_eq,not_true_eq_false,if_false,Sem.run_pure,Result.andThen_ok]
      exact⟨_,fun _=>rfl,Post.pure h rfl (zbD (by simp[den,B.den,hm,hn,T.ar,T.arI]))⟩
    ·cases hr
   all_goals
    split at hr
    · rename_i hk;subst hk;cases hr
      simp only[binOp,Op.intArith,Op.intBits,Op.intCmp,ne_eq,not_true_eq_false,if_false,Sem.run_pure,Result.andThen_ok]
      first
       |exact⟨_,fun _=>rfl,Post.pure h rfl (zbD (by simp[den,B.den,hm,hn,T.ar,T.arI]))⟩
       |exact⟨_,fun _=>rfl,Post.pure h rfl (zc1 (by simp[den,B.den,hm,hn,T.cmp,T.cmpI]))⟩
    ·cases hr
 · rename_i a b hx hy
   obtain⟨m,hm,hvm⟩:=zfL (zab h hG hx (ds:=ds))
   obtain⟨n,hn,hvn⟩:=zfL (zab h hG hy (ds:=ds))
   have key:∀ti,tab.get xt=some ti->ti.td = .bool->P.underlying xt=some .bool:=by
    intro ti hti htd
    obtain⟨d,h1,h2,_⟩:=(hT xt ti hti).und
    rw[htd]at h2
    cases d<;>simp[tdChk]at h2
    exact h1
   unfold YieldP
   simp only[execOp,hvm,hvn,Sem.run_bind,zhb,Result.andThen_ok,Sem.run_pure]
   split at hr
   · rename_i ti hti
     split at hr
     · rename_i htd
       cases hr
       simp only[zff (key ti hti htd),Result.andThen_ok]
       exact⟨_,fun _=>rfl,Post.pure h rfl (zc1 (by simp[den,B.den,hm,hn,T.bcmp]))⟩
     ·cases hr
   · rename_i ti hti
     split at hr
     · rename_i htd
       cases hr
       simp only[zfl (key ti hti htd),Result.andThen_ok]
       exact⟨_,fun _=>rfl,Post.pure h rfl (zc1 (by simp only[den,B.den,hm,hn,T.bcmp];cases m<;>cases n<;>rfl))⟩
     ·cases hr
   ·cases hr
 · rename_i a b hx hy
   obtain⟨m,hm,hvm⟩:=zeG (zab h hG hx (ds:=ds))
   obtain⟨n,hn,hvn⟩:=zeG (zab h hG hy (ds:=ds))
   unfold YieldP
   simp only[execOp,hvm,hvn,Sem.run_bind,zhj,Result.andThen_ok,Sem.run_pure]
   split at hr
   · rename_i hc
     cases hr
     cases o<;>simp[isCmp]at hc <;>
      (simp only[binOp,Op.stringOp,Sem.run_pure,Result.andThen_ok]
       exact⟨_,fun _=>rfl,Post.pure h rfl (zc1 (by simp[den,B.den,hm,hn,T.scmp,T.scmpS]))⟩)
   · split at hr
     · cases hr
       have h1:=hS (G,.set nx (.bin .scat a b)) (by simp) hG
       have h2:=hS (G,.chk (.bin (.cmp .leq) (.un .slen (.var nx)) (.int 4611686018427387904))) (by simp) hG
       simp only[SIok,den,B.den,hm,hn,T.scat]at h1
       simp only[SIok,den,B.den,U.den,h1,T.slen,T.cmp,T.cmpI,T.bool.injEq,decide_eq_true_eq]at h2
       have h3:¬(((m.size+n.size:Nat):Int)>IntKind.i64.max):=by
        rw[ByteArray.size_append]at h2
        have:IntKind.i64.max=9223372036854775807:=by decide
        omega
       simp only[binOp,Op.stringOp,if_neg h3,Sem.run_pure,Result.andThen_ok]
       exact⟨_,fun _=>rfl,Post.pure h rfl (zgE (by simp[den,h1]))⟩
     ·cases hr
 ·cases hr
theorem zhG (hT:TabOk P tab)(h:Rel tab Γ ρ tm w C kn Wr w0)(hG:holdsG ρ G){o:BinOp}{xt yt:TypeId}{x y:Operand}{r:Res}(hr:anBin tab Γ G nx no o xt x y=some r)(hS:HoldsS I ρ r.sis){ds:List Deferred}
 {dst:Option Tmp} {ty:TypeId} {pos:String} {aft:Array Edge} {gd:Option (Nat × Bool)} :
 Yield P (execOp (Act.eval ⟨tm,ds⟩) ⟨dst,.binOp o xt x y yt,ty,pos,aft,gd⟩) w fun v w'=>Post tab Γ ρ tm C kn Wr w0 nx no r v w':=by
 obtain⟨v,e1,e2⟩:=zdu hT h hG hr hS (ds:=ds) (dst:=dst) (ty:=ty) (pos:=pos) (aft:=aft) (gd:=gd)
 exact⟨v,w,e1 w,e2⟩
def anUn (Γ:Gam)(G:Grd)(nx no:Nat)(o:UnOp)(x:Operand):Option Res :=
 match o,opd Γ G x with
 |.not,some (.s (.one (.bool a)))=>some ⟨.s (.one (.bool (.un .not a))),[],[],nx,no⟩
 |.neg,some (.s (.one (.int k a)))=>some ⟨.s (.one (.int k (.un (.neg k) a))),[],[],nx,no⟩
 |_,_=>none
theorem zi3 (h:Rel tab Γ ρ tm w C kn Wr w0)(hG:holdsG ρ G){o:UnOp}{xt:TypeId}{x:Operand}{r:Res}(hr:anUn Γ G nx no o x=some r){ds:List Deferred}
 {dst:Option Tmp} {ty:TypeId} {pos:String} {aft:Array Edge} {gd:Option (Nat × Bool)} :
 Yield P (execOp (Act.eval ⟨tm,ds⟩) ⟨dst,.unOp o xt x,ty,pos,aft,gd⟩) w fun v w'=>Post tab Γ ρ tm C kn Wr w0 nx no r v w':=by
 unfold anUn at hr
 split at hr
 · rename_i a hx
   obtain⟨m,hm,hvm⟩:=zfL (zab h hG hx (ds:=ds))
   cases hr
   unfold Yield
   simp only[execOp,hvm,Op.unary,Sem.run_bind,Sem.run_pure,Result.andThen_ok]
   exact⟨_,_,rfl,Post.pure h rfl (zc1 (by simp[den,U.den,hm,T.not]))⟩
 · rename_i k a hx
   obtain⟨m,hm,hvm⟩:=zb7 (zab h hG hx (ds:=ds))
   cases hr
   unfold Yield
   simp only[execOp,hvm,Op.unary,Op.intArith,Sem.run_bind,Sem.run_pure,Result.andThen_ok]
   exact⟨_,_,rfl,Post.pure h rfl (zbD (by simp[den,U.den,hm,T.neg]))⟩
 ·cases hr
def anConv (tab:Tab)(Γ:Gam)(G:Grd)(nx no:Nat)(src dst:TypeId)(x:Operand):Option Res :=
 match opd Γ G x,tab.get src,tab.get dst with
 | some (.s (.one (.int _ a))), some _, some ti => match ti.td with
   |.int k=>some ⟨.s (.one (.int k (.un (.conv k) a))),[],[],nx,no⟩
   |_=>none
 |_,_,_=>none
theorem zc3 (hT:TabOk P tab)(h:Rel tab Γ ρ tm w C kn Wr w0)(hG:holdsG ρ G){src ds':TypeId}{x:Operand}{r:Res}(hr:anConv tab Γ G nx no src ds' x=some r){ds:List Deferred}
 {dst:Option Tmp} {ty:TypeId} {pos:String} {aft:Array Edge} {gd:Option (Nat × Bool)} :
 YieldP P (execOp (Act.eval ⟨tm,ds⟩) ⟨dst,.convert src ds' x,ty,pos,aft,gd⟩) w fun v w'=>Post tab Γ ρ tm C kn Wr w0 nx no r v w':=by
 unfold anConv at hr
 split at hr
 case h_2=>cases hr
 rename_i a ts td hx hs hd
 split at hr
 case h_2=>cases hr
 rename_i k hk
 cases hr
 obtain⟨m,hm,hvm⟩:=zb7 (zab h hG hx (ds:=ds))
 obtain⟨d1,u1,_,_⟩:=(hT _ _ hs).und
 obtain⟨d2,u2,u3,_⟩:=(hT _ _ hd).und
 rw[hk]at u3
 cases d2<;>simp[tdChk]at u3
 subst u3
 unfold YieldP
 simp only[execOp,hvm,convert,underlying,Sem.run_bind,run_program,Result.andThen_ok,u1,u2,Sem.run_pure]
 cases d1 <;>
  (simp only[Conv.intToInt,Sem.run_pure,Result.andThen_ok]
   exact⟨_,fun _=>rfl,Post.pure h rfl (zbD (by simp[den,U.den,hm,T.conv]))⟩)
theorem zgz (hT:TabOk P tab)(h:Rel tab Γ ρ tm w C kn Wr w0)(hG:holdsG ρ G){src ds':TypeId}{x:Operand}{r:Res}(hr:anConv tab Γ G nx no src ds' x=some r){ds:List Deferred}
 {dst:Option Tmp} {ty:TypeId} {pos:String} {aft:Array Edge} {gd:Option (Nat × Bool)} :
 Yield P (execOp (Act.eval ⟨tm,ds⟩) ⟨dst,.convert src ds' x,ty,pos,aft,gd⟩) w fun v w'=>Post tab Γ ρ tm C kn Wr w0 nx no r v w':=by
 obtain⟨v,e1,e2⟩:=zc3 hT h hG hr (ds:=ds) (dst:=dst) (ty:=ty) (pos:=pos) (aft:=aft) (gd:=gd)
 exact⟨v,w,e1 w,e2⟩
end
end Gp
namespace Gp
open Go
section
variable {tab:Tab}{Γ:Gam}{ρ:Env}{tm:Array Value}{w:World}{C:Ctx}{kn:Kn}{Wr:CS}{w0:World}{P:Program}{I:Nat->List T->List T->Prop}{G:Grd}{nx no:Nat}
theorem zbW (hT:TabOk P tab){t:TypeId}{ti:TI}(h:tab.get t=some ti):∃d,P.underlying t=some d/\tdChk ti.td d=true/\isAggD d=ti.agg:=(hT t ti h).und
theorem zaB (hT:TabOk P tab){t e:TypeId}{ti:TI}(h:tab.get t=some ti)(hd:ti.td = .slice e):P.underlying t=some (.slice e):=by
 obtain⟨d,h1,h2,_⟩:=zbW hT h
 rw[hd]at h2
 cases d<;>simp[tdChk]at h2
 subst h2;exact h1
theorem zfN (hT:TabOk P tab){t:TypeId}{ti:TI}(h:tab.get t=some ti)(hd:ti.td = .str):P.underlying t=some .string:=by
 obtain⟨d,h1,h2,_⟩:=zbW hT h
 rw[hd]at h2
 cases d<;>simp[tdChk]at h2
 exact h1
theorem zf7 (hT:TabOk P tab){t:TypeId}{ti:TI}{fs:List (Nat × TypeId)}(h:tab.get t=some ti)(hd:ti.td = .struct fs) :
 ∃gs:Array Field,P.underlying t=some (.struct gs)/\gs.toList.map (fun f=>(f.offset,f.type))=fs:=by
 obtain⟨d,h1,h2,_⟩:=zbW hT h
 rw[hd]at h2
 cases d<;>simp[tdChk]at h2
 exact⟨_,h1,by simpa using h2.symm⟩
theorem zas (hT:TabOk P tab){t:TypeId}{ti:TI}(h:tab.get t=some ti):(Go.sizeOf t).run P w = .ok ti.size w:=by
 obtain⟨i,z,h1,h2,_⟩:=(hT t ti h).inf
 simp only[Go.sizeOf,typeInfo,Sem.run_bind,run_program,Result.andThen_ok,h1,Sem.run_pure,h2]
theorem zbC (hT:TabOk P tab){t:TypeId}{ti:TI}(h:tab.get t=some ti):(isAgg t).run P w = .ok ti.agg w:=by
 obtain⟨d,h1,_,h3⟩:=zbW hT h
 rw[<- h3]
 simp only[isAgg,underlying,Sem.run_bind,run_program,Result.andThen_ok,h1,Sem.run_pure]
 cases d<;>rfl
theorem zce (hT:TabOk P tab){t ft:TypeId}{ti:TI}{fs:List (Nat × TypeId)}{f off:Nat}(h:tab.get t=some ti)(hd:ti.td = .struct fs)(hf:fs[f]? = some (off,ft)) :
 ∃gs:Array Field,∃g tj,P.underlying t=some (.struct gs)/\gs[f]? = some g/\g.offset=off/\g.type=ft/\tab.get ft=some tj/\tj.size≠0/\off+tj.size<=ti.size/\(ti.cks.drop off).take tj.size=tj.cks:=by
 obtain⟨gs,h1,h2⟩:=zf7 hT h hd
 have hc:=(hT t ti h).cks
 unfold cksOf at hc
 rw[hd]at hc
 simp only[List.all_eq_true]at hc
 have hm:=hc _ (List.mem_of_getElem? hf)
 simp only at hm
 split at hm
 case h_2=>cases hm
 rename_i tj htj
 simp only[Bool.and_eq_true,beq_iff_eq,Nat.ble_eq]at hm
 obtain⟨⟨hm1,hm2⟩,hm3⟩:=hm
 rw[<- h2,List.getElem?_map]at hf
 cases hg:gs.toList[f]? with
 |none=>rw[hg]at hf;cases hf
 | some g =>
   rw[hg]at hf
   simp only[Option.map_some,Option.some.injEq,Prod.mk.injEq]at hf
   exact⟨gs,g,tj,h1,by simpa using hg,hf.1,hf.2,htj,(fun e=>by rw[e]at hm3;cases hm3),hm2,hm1⟩
def Tab.field(tab:Tab)(s:TypeId)(f:Nat):Option (Nat × TypeId × Nat × Bool) :=
 match tab.get s with
 | some ti => match ti.td with
   | .struct fs => match fs[f]? with
     | some (off, ft) => match tab.get ft with
       |some tj=>some (off,ft,tj.size,tj.agg)
       |none=>none
     |none=>none
   |_=>none
 |none=>none
theorem zb4 (b o n:Nat):(⟨b,o,none⟩:Addr).add n = ⟨b,o+n,none⟩:=by
 unfold Addr.add;split
 ·rename_i h;subst h;rfl
 ·rfl
def anFieldAddr(tab:Tab)(Γ:Gam)(G:Grd)(nx no:Nat)(s:TypeId)(x:Operand)(f:Nat):Option Res :=
 match tab.field s f,opd Γ G x with
 |some (off,_,_,_),some (.s (.one (.pb o j)))=>some ⟨.s (.one (.pb o (j+off))),[],[],nx,no⟩
 |some (off,_,_,_),some (.s (.one (.pe o et i j)))=>some ⟨.s (.one (.pe o et i (j+off))),[],[],nx,no⟩
 |_,_=>none
theorem zbN (hT:TabOk P tab){s ft:TypeId}{f off sz:Nat}{ag:Bool}(hf:tab.field s f=some (off,ft,sz,ag))(b o:Nat) :
 (Instr.fieldAt s (.pointer (some ⟨b,o,none⟩)) f).run P w = .ok (.pointer (some ⟨b,o+off,none⟩)) w:=by
 unfold Tab.field at hf
 split at hf
 case h_2=>cases hf
 rename_i ti hti
 split at hf
 case h_2=>cases hf
 rename_i fs hfs
 split at hf
 case h_2=>cases hf
 rename_i off' ft' hff
 split at hf
 case h_2=>cases hf
 rename_i tj htj
 cases hf
 obtain⟨gs,g,tj',h1,h2,h3,h4,h5,h6,_⟩:=zce hT hti hfs hff
 rw[htj]at h5;cases h5
 have hsz:=zas (w:=w) hT (by rw[<- h4]at htj;exact htj:tab.get g.type=some tj)
 simp only[Instr.fieldAt,underlying,Sem.run_bind,run_program,Result.andThen_ok,h1,Sem.run_pure,h2,Instr.sureAddr,fieldPlace,hsz,if_neg h6,zb4,h3]
theorem zd1 (hT:TabOk P tab)(h:Rel tab Γ ρ tm w C kn Wr w0)(hG:holdsG ρ G){s:TypeId}{x:Operand}{f:Nat}{r:Res}(hr:anFieldAddr tab Γ G nx no s x f=some r){ds:List Deferred}
 {dst:Option Tmp} {ty:TypeId} {pos:String} {aft:Array Edge} {gd:Option (Nat × Bool)} :
 Yield P (execOp (Act.eval ⟨tm,ds⟩) ⟨dst,.fieldAddr s x f,ty,pos,aft,gd⟩) w fun v w'=>Post tab Γ ρ tm C kn Wr w0 nx no r v w':=by
 unfold anFieldAddr at hr
 unfold Yield
 split at hr
 · rename_i off ft sz ag o j hf hx
   cases hr
   obtain⟨⟨hk,b,base,hA,hv⟩,_⟩:=zab h hG hx (ds:=ds)
   simp only[execOp,hv,Sem.run_bind,zbN hT hf,Result.andThen_ok,Sem.run_pure]
   exact⟨_,_,rfl,Post.pure h rfl ⟨⟨hk,b,base,hA,by rw[Nat.add_assoc]⟩,fun cs=>by simp⟩⟩
 · rename_i off ft sz ag o et i j hf hx
   cases hr
   obtain⟨⟨hk,m,b,base,hi,hm,hA,hv⟩,_⟩:=zab h hG hx (ds:=ds)
   simp only[execOp,hv,Sem.run_bind,zbN hT hf,Result.andThen_ok,Sem.run_pure]
   exact⟨_,_,rfl,Post.pure h rfl ⟨⟨hk,m,b,base,hi,hm,hA,by rw[Nat.add_assoc]⟩,fun cs=>by simp⟩⟩
 ·cases hr
def inB (i n:Exp):Exp:=.bin .and (.bin (.cmp .leq) (.int 0) i) (.bin (.cmp .lss) i n)
theorem zgR {i n:Exp}(h:den ρ (inB i n) = .bool true){a b:Int}(ha:den ρ i = .int a)(hb:den ρ n = .int b):0<=a/\a<b:=by
 simp only[inB,den,B.den,ha,hb,T.cmp,T.cmpI,T.band,T.bool.injEq,Bool.and_eq_true,decide_eq_true_eq]at h
 exact h
def plusE (a b:Exp):Exp:=match a with
 |.int 0=>b
 |a=>.bin .plus a b
theorem zcM {a b:Exp}{m n:Int}(ha:den ρ a = .int m)(hb:den ρ b = .int n):den ρ (plusE a b) = .int (m+n):=by
 unfold plusE;split
 ·simp[den]at ha;subst ha;simpa using hb
 ·simp[den,B.den,ha,hb,T.plus]
def minusE (a b:Exp):Exp:=match b with
 |.int 0=>a
 |b=>.bin .minus a b
theorem ziO {a b:Exp}{m n:Int}(ha:den ρ a = .int m)(hb:den ρ b = .int n):den ρ (minusE a b) = .int (m-n):=by
 unfold minusE;split
 ·simp[den]at hb;subst hb;simpa using ha
 ·simp[den,B.den,ha,hb,T.minus]
def anIndexAddr(tab:Tab)(Γ:Gam)(G:Grd)(nx no:Nat)(t:TypeId)(x i:Operand):Option Res :=
 match opd Γ G x,opd Γ G i,tab.get t with
 | some (.s (.one (.sl o et off len))), some (.s (.one (.int _ ie))), some ti => match ti.td with
   |.slice e=>if Nat.beq e et&&(tab.get et).isSome then some ⟨.s (.one (.pe o et (plusE off ie) 0)),[],[(G,.chk (inB ie len))],nx,no⟩ else none
   |_=>none
 |_,_,_=>none
theorem zbb (hT:TabOk P tab)(h:Rel tab Γ ρ tm w C kn Wr w0)(hG:holdsG ρ G){t:TypeId}{x i:Operand}{r:Res}(hr:anIndexAddr tab Γ G nx no t x i=some r)(hS:HoldsS I ρ r.sis){ds:List Deferred}
 {dst:Option Tmp} {ty:TypeId} {pos:String} {aft:Array Edge} {gd:Option (Nat × Bool)} :
 YieldP P (execOp (Act.eval ⟨tm,ds⟩) ⟨dst,.indexAddr t x i,ty,pos,aft,gd⟩) w fun v w'=>Post tab Γ ρ tm C kn Wr w0 nx no r v w':=by
 unfold anIndexAddr at hr
 split at hr
 case h_2=>cases hr
 rename_i o et off len k ie ti hx hi hti
 split at hr
 case h_2=>cases hr
 rename_i e hd
 split at hr
 case isFalse=>cases hr
 rename_i hc
 simp only[Bool.and_eq_true,Option.isSome_iff_exists]at hc
 obtain⟨he,te,hte⟩:=hc
 have he:=Nat.eq_of_beq_eq_true he
 subst he
 cases hr
 obtain⟨⟨hk,m,n,a,c,hm,hn,hv,h1,h2,h3,h4⟩,_⟩:=zab h hG hx (ds:=ds)
 obtain⟨q,hq,hvq⟩:=zb7 (zab h hG hi (ds:=ds))
 have hb:=zgR (hS (G,.chk (inB ie len)) (by simp) hG) hq hn
 obtain⟨p,rfl⟩:∃p:Nat,q=p:=⟨q.toNat,by omega⟩
 rcases h4 with h4|⟨b,base,hA,ha⟩
 ·omega
 have hsz:tab.sz e=te.size:=by simp[Tab.sz,hte]
 unfold YieldP
 simp only[execOp,hv,hvq,Instr.indexAt,asIntOf,underlying,Sem.run_bind,run_program,Result.andThen_ok,zaB hT hti hd,Sem.run_pure,ha]
 rw[if_pos (by omega)]
 simp only[Sem.run_bind,zas hT hte,Result.andThen_ok,Sem.run_pure,zb4,Int.toNat_natCast]
 refine⟨_,fun _=>rfl,Post.pure h rfl ⟨⟨hk,m+p,b,base,?_,by omega,hA,?_⟩,fun cs=>by simp⟩⟩
 ·have:=zcM hm hq;simpa using this
 ·rw[hsz,Nat.add_mul];simp;omega
theorem zdy (hT:TabOk P tab)(h:Rel tab Γ ρ tm w C kn Wr w0)(hG:holdsG ρ G){t:TypeId}{x i:Operand}{r:Res}(hr:anIndexAddr tab Γ G nx no t x i=some r)(hS:HoldsS I ρ r.sis){ds:List Deferred}
 {dst:Option Tmp} {ty:TypeId} {pos:String} {aft:Array Edge} {gd:Option (Nat × Bool)} :
 Yield P (execOp (Act.eval ⟨tm,ds⟩) ⟨dst,.indexAddr t x i,ty,pos,aft,gd⟩) w fun v w'=>Post tab Γ ρ tm C kn Wr w0 nx no r v w':=by
 obtain⟨v,e1,e2⟩:=zbb hT h hG hr hS (ds:=ds) (dst:=dst) (ty:=ty) (pos:=pos) (aft:=aft) (gd:=gd)
 exact⟨v,w,e1 w,e2⟩
def anIndex (tab:Tab)(Γ:Gam)(G:Grd)(nx no:Nat)(t:TypeId)(x i:Operand):Option Res :=
 match opd Γ G x,opd Γ G i,tab.get t with
 | some (.s (.one (.str s))), some (.s (.one (.int _ ie))), some ti => match ti.td with
   |.str=>some ⟨.s (.one (.int .u8 (.bin .sidx s ie))),[],[(G,.chk (inB ie (.un .slen s)))],nx,no⟩
   |_=>none
 |_,_,_=>none
theorem zfY (hT:TabOk P tab)(h:Rel tab Γ ρ tm w C kn Wr w0)(hG:holdsG ρ G){t:TypeId}{x i:Operand}{r:Res}(hr:anIndex tab Γ G nx no t x i=some r)(hS:HoldsS I ρ r.sis){ds:List Deferred}
 {dst:Option Tmp} {ty:TypeId} {pos:String} {aft:Array Edge} {gd:Option (Nat × Bool)} :
 Yield P (execOp (Act.eval ⟨tm,ds⟩) ⟨dst,.index t x i,ty,pos,aft,gd⟩) w fun v w'=>Post tab Γ ρ tm C kn Wr w0 nx no r v w':=by
 unfold anIndex at hr
 split at hr
 case h_2=>cases hr
 rename_i s k ie ti hx hi hti
 split at hr
 case h_2=>cases hr
 rename_i hd
 cases hr
 obtain⟨sb,hs,hv⟩:=zeG (zab h hG hx (ds:=ds))
 obtain⟨q,hq,hvq⟩:=zb7 (zab h hG hi (ds:=ds))
 have hn:den ρ (.un .slen s) = .int (sb.size:Nat):=by simp[den,U.den,hs,T.slen]
 have hb:=zgR (hS (G,.chk (inB ie (.un .slen s))) (by simp) hG) hq hn
 obtain⟨p,rfl⟩:∃p:Nat,q=p:=⟨q.toNat,by omega⟩
 have hp:p<sb.size:=by omega
 unfold Yield
 simp only[execOp,hv,hvq,Instr.index,asIntOf,underlying,Sem.run_bind,run_program,Result.andThen_ok,zfN hT hti hd,Sem.run_pure]
 rw[if_pos (by omega)]
 simp only[Int.toNat_natCast,getElem?_pos sb p hp,Sem.run_pure,Result.andThen_ok]
 refine⟨_,_,rfl,Post.pure h rfl (zbD ?_)⟩
 have hp':p<sb.data.size:=hp
 simp only[den,B.den,hs,hq,T.sidx,if_neg (show ¬((p:Int)<0) by omega),Int.toNat_natCast,Array.getElem?_eq_getElem hp']
 rfl
def anExtract(Γ:Gam)(G:Grd)(nx no:Nat)(x:Operand)(i:Nat):Option Res :=
 match opd Γ G x with
 |some (.tup xs)=>(xs[i]?).map fun y=>⟨.s y,[],[],nx,no⟩
 |_=>none
theorem zez (h:Rel tab Γ ρ tm w C kn Wr w0)(hG:holdsG ρ G){x:Operand}{i:Nat}{r:Res}(hr:anExtract Γ G nx no x i=some r){ds:List Deferred}
 {dst:Option Tmp} {ty:TypeId} {pos:String} {aft:Array Edge} {gd:Option (Nat × Bool)} :
 Yield P (execOp (Act.eval ⟨tm,ds⟩) ⟨dst,.extract x i,ty,pos,aft,gd⟩) w fun v w'=>Post tab Γ ρ tm C kn Wr w0 nx no r v w':=by
 unfold anExtract at hr
 split at hr
 case h_2=>cases hr
 rename_i xs hx
 cases hy:xs[i]? with
 |none=>rw[hy]at hr;cases hr
 | some y =>
   rw[hy]at hr;cases hr
   obtain⟨vs,hv,_,hc⟩:=zab h hG hx (ds:=ds)
   obtain⟨u,hu,hr'⟩:=hc i y hy
   unfold Yield
   simp only[execOp,hv,Instr.extract,hu,Sem.run_bind,Sem.run_pure,Result.andThen_ok]
   exact⟨_,_,rfl,Post.pure h rfl hr'⟩
theorem LeavesRel.sub{ls:List Leaf}{vs:Array Value}{k:Nat->Prop}(h:LeavesRel tab C k ρ ls vs)(off n:Nat)(hn:off+n<=ls.length) :
 LeavesRel tab C k ρ ((ls.drop off).take n) (vs.extract off (off+n)):=by
 obtain⟨h1,h2⟩:=h
 refine⟨by simp;omega,fun i l hl=>?_⟩
 have hi:=List.getD_some_lt hl
 simp only[List.length_take,List.length_drop]at hi
 rw[List.getElem?_take_of_lt (by omega),List.getElem?_drop]at hl
 obtain⟨u,hu,hr⟩:=h2 _ _ hl
 refine⟨u,?_,hr⟩
 rw[Array.getElem?_extract,if_pos (by omega)];exact hu
def anField (tab : Tab) (Γ : Gam) (G : Grd) (nx no : Nat) (t : TypeId) (x : Operand) (f : Nat) : Option Res :=
 match tab.field t f,opd Γ G x with
 | some (off, _, sz, ag), some (.s (.agg ls)) =>
   if Nat.ble (off+sz) ls.length then
    if ag then some ⟨.s (.agg ((ls.drop off).take sz)),[],[],nx,no⟩
    else match ls[off]? with
     |some .dead=>none
     |some l=>some ⟨.s (.one l),[],[],nx,no⟩
     |none=>none
   else none
 |_,_=>none
theorem LeafRel.notAgg{k:Nat->Prop}{l:Leaf}{v:Value}(h:LeafRel tab C k ρ l v)(hl:l ≠ .dead):∀cs,v ≠ .agg cs:=by
 intro cs e;subst e
 cases l with
 |dead=>exact hl rfl
 |int=>obtain⟨_,_,h⟩:=h;cases h
 |bool=>obtain⟨_,_,h⟩:=h;cases h
 |str=>obtain⟨_,_,h⟩:=h;cases h
 |sl=>obtain⟨_,_,_,_,_,_,_,h,_⟩:=h;cases h
 |slw=>obtain⟨_,_,h,_⟩:=h;cases h
 |nil=>cases h
 |pb=>obtain⟨_,_,_,_,h⟩:=h;cases h
 |pe=>obtain⟨_,_,_,_,_,_,_,h⟩:=h;cases h
 |fn=>obtain⟨_,h,_⟩:=h;cases h
 |mp=>obtain⟨_,_,_,h⟩:=h;cases h
theorem zgi (hT:TabOk P tab)(h:Rel tab Γ ρ tm w C kn Wr w0)(hG:holdsG ρ G){t:TypeId}{x:Operand}{f:Nat}{r:Res}(hr:anField tab Γ G nx no t x f=some r){ds:List Deferred}
 {dst:Option Tmp} {ty:TypeId} {pos:String} {aft:Array Edge} {gd:Option (Nat × Bool)} :
 Yield P (execOp (Act.eval ⟨tm,ds⟩) ⟨dst,.field t x f,ty,pos,aft,gd⟩) w fun v w'=>Post tab Γ ρ tm C kn Wr w0 nx no r v w':=by
 unfold anField at hr
 split at hr
 case h_2=>cases hr
 rename_i off ft sz ag ls hf hx
 split at hr
 case isFalse=>cases hr
 rename_i hle
 rw[Nat.ble_eq]at hle
 obtain⟨vs,hv,hvs⟩:=zab h hG hx (ds:=ds)
 unfold Tab.field at hf
 split at hf
 case h_2=>cases hf
 rename_i ti hti
 split at hf
 case h_2=>cases hf
 rename_i fs hfs
 split at hf
 case h_2=>cases hf
 rename_i off' ft' hff
 split at hf
 case h_2=>cases hf
 rename_i tj htj
 cases hf
 obtain⟨gs,g,tj',h1,h2,h3,h4,h5,h6,_⟩:=zce hT hti hfs hff
 rw[htj]at h5;cases h5
 rw[<- h4]at htj
 unfold Yield
 simp only[execOp,hv,Instr.field,underlying,Sem.run_bind,run_program,Result.andThen_ok,h1,Sem.run_pure,h2,asAgg,part,zbC hT htj,zas hT htj,h3,Sem.run_ite]
 split at hr
 · rename_i hag
   cases hr
   rw[if_pos hag]
   simp only[Result.andThen_ok]
   exact⟨_,_,rfl,Post.pure h rfl ⟨_,rfl,hvs.sub off tj.size hle⟩⟩
 · rename_i hag
   rw[if_neg hag]
   split at hr
   ·cases hr
   · rename_i l hne hl
     cases hr
     obtain⟨u,hu,hrl⟩:=hvs.2 off l hl
     rw[hu]
     simp only[Sem.run_pure,Result.andThen_ok]
     exact⟨_,_,rfl,Post.pure h rfl ⟨hrl,hrl.notAgg (fun e=>hne (by rw[e]))⟩⟩
   ·cases hr
def anLen (tab:Tab)(Γ:Gam)(G:Grd)(nx no:Nat)(t:TypeId)(x:Operand):Option Res :=
 match opd Γ G x,tab.get t with
 | some (.s (.one (.sl _ _ _ len))), some ti => match ti.td with
   |.slice _=>some ⟨.s (.one (.int .i64 len)),[],[],nx,no⟩
   |_=>none
 | some (.s (.one .nil)), some ti => match ti.td with
   |.slice _=>some ⟨.s (.one (.int .i64 (.int 0))),[],[],nx,no⟩
   |_=>none
 | some (.s (.one (.str e))), some ti => match ti.td with
   |.str=>some ⟨.s (.one (.int .i64 (.un .slen e))),[],[],nx,no⟩
   |_=>none
 |_,_=>none
theorem zhC (hT:TabOk P tab)(h:Rel tab Γ ρ tm w C kn Wr w0)(hG:holdsG ρ G){t:TypeId}{x:Operand}{r:Res}(hr:anLen tab Γ G nx no t x=some r){ds:List Deferred}
 {dst:Option Tmp} {ty:TypeId} {pos:String} {aft:Array Edge} {gd:Option (Nat × Bool)} :
 Yield P (execOp (Act.eval ⟨tm,ds⟩) ⟨dst,.call { callee:=.builtin .len,args:=#[x],argTypes:=#[t] },ty,pos,aft,gd⟩) w fun v w'=>Post tab Γ ρ tm C kn Wr w0 nx no r v w':=by
 unfold anLen at hr
 unfold Yield
 split at hr
 · rename_i o et off len ti hx hti
   split at hr
   case h_2=>cases hr
   rename_i e hd
   cases hr
   obtain⟨⟨hk,m,n,a,c,hm,hn,hv,_⟩,_⟩:=zab h hG hx (ds:=ds)
   simp only[execOp,resolve,invoke,builtin,Builtin.len_,Sem.run_bind,Sem.run_pure,Result.andThen_ok,underlying,run_program,List.map_toArray,List.map_cons,List.map_nil,hv]
   simp only[List.getElem?_toArray,List.getElem?_cons_zero,Sem.run_bind,underlying,run_program,Result.andThen_ok,zaB hT hti hd,Sem.run_pure]
   exact⟨_,_,rfl,Post.pure h rfl (zbD hn)⟩
 · rename_i ti hx hti
   split at hr
   case h_2=>cases hr
   rename_i e hd
   cases hr
   obtain⟨hv,_⟩:=zab h hG hx (ds:=ds)
   simp only[LeafRel]at hv
   simp only[execOp,resolve,invoke,builtin,Builtin.len_,Sem.run_bind,Sem.run_pure,Result.andThen_ok,underlying,run_program,List.map_toArray,List.map_cons,List.map_nil,hv]
   simp only[List.getElem?_toArray,List.getElem?_cons_zero,Sem.run_bind,underlying,run_program,Result.andThen_ok,zaB hT hti hd,Sem.run_pure]
   exact⟨_,_,rfl,Post.pure h rfl (zbD rfl)⟩
 · rename_i e ti hx hti
   split at hr
   case h_2=>cases hr
   rename_i hd
   cases hr
   obtain⟨s,hs,hv⟩:=zeG (zab h hG hx (ds:=ds))
   simp only[execOp,resolve,invoke,builtin,Builtin.len_,Sem.run_bind,Sem.run_pure,Result.andThen_ok,underlying,run_program,List.map_toArray,List.map_cons,List.map_nil,hv]
   simp only[List.getElem?_toArray,List.getElem?_cons_zero,Sem.run_bind,underlying,run_program,Result.andThen_ok,zfN hT hti hd,Sem.run_pure]
   exact⟨_,_,rfl,Post.pure h rfl (zbD (by simp[den,U.den,hs,T.slen]))⟩
 ·cases hr
end
end Gp
namespace Gp
open Go
section
variable {tab:Tab}{Γ:Gam}{ρ:Env}{tm:Array Value}{w:World}{C:Ctx}{kn:Kn}{Wr:CS}{w0:World}{P:Program}{I:Nat->List T->List T->Prop}{G:Grd}{nx no:Nat}
theorem zgb (w:World)(o:Go.Obj):(w.alloc o).heap[w.heap.size]? = some o:=heap_alloc_new w o
theorem zbj (w:World)(cs:Array Value)(t:TypeId)(x:Nat):cellAt (w.alloc (.cells cs t)) w.heap.size x=cs[x]?:=by
 simp only[cellAt,World.cell?,zgb];rfl
theorem zb3 (w:World)(cs:Array Value)(t:TypeId)(x:Nat):frozenAt (w.alloc (.cells cs t)) w.heap.size x=false:=by
 simp only[frozenAt,zgb]
 rfl
theorem Rel.old(h:Rel tab Γ ρ tm w C kn Wr w0){o:Nat}{g:Grd}{ob:Obj}(ho:Γ.obj o=some (g,ob))(hg:holdsG ρ g)(hv:ob.isView=false){b x:Nat}(hf:C.F o b x):b<w.heap.size :=
 ((h.obs o g ob ho).2.2 hg).lt hv hf
theorem Rel.newBox(h:Rel tab Γ ρ tm w C kn Wr w0){cells:List Leaf}{vs:Array Value}{et:TypeId}(hl:LeavesRel tab C kn.o ρ cells vs)(hno:¬kn.o no) :
 Rel tab (Γ.setOb no (G,.box true cells)) ρ tm (w.alloc (.cells vs et)) (C.set no (some ⟨w.heap.size,0,none⟩) 0 0 (Rng w.heap.size 0 cells.length)) (kn.addO no) Wr w0:=by
 have hg:=h.grows (Grows.push w (.cells vs et))
 have hne:∀o',kn.o o'->o'≠no:=fun o' h1 e=>hno (e▸h1)
 refine hg.addOb hno trivial (fun _=>?_) (fun _ _ o' g' ob' ho' hg' hv'=>?_) (fun _ _ o' g' ob' ho' hg' hv'=>?_) (fun _ _ b x hf=>?_)
 · refine⟨w.heap.size,0,⟨rfl,Ctx.set_self.1⟩,Ctx.set_self.2.2.2,fun j l hj=>?_,fun _ x _=>zb3 ..⟩
   obtain⟨u,hu,hr⟩:=hl.2 j l hj
   refine⟨u,by rw[zbj];simpa using hu,hr.mono (fun _=>.inl) fun o' ho'=>⟨(Ctx.set_ne (hne o' ho')).1,(Ctx.set_ne (hne o' ho')).2.1,(Ctx.set_ne (hne o' ho')).2.2.1⟩⟩
 · rintro b x ⟨rfl,_,_⟩ hf
   exact absurd (h.old ho' hg' hv' hf) (by omega)
 · rintro b x hf ⟨rfl,_,_⟩
   exact absurd (h.old ho' hg' (by cases ob'<;>simp_all[Obj.owned,Obj.isView]) hf) (by omega)
 · obtain⟨rfl,_,_⟩:=hf
   exact .inr h.frm.size
theorem Post.newBox(h:Rel tab Γ ρ tm w C kn Wr w0){cells:List Leaf}{vs:Array Value}{et:TypeId}(hl:LeavesRel tab C kn.o ρ cells vs)(hno:¬kn.o no) :
 Post tab Γ ρ tm C kn Wr w0 nx no ⟨.s (.one (.pb no 0)),[(no,some (G,.box true cells))],[],nx,no+1⟩ (.pointer (some ⟨w.heap.size,0,none⟩)) (w.alloc (.cells vs et)) :=
 ⟨_,_,h.newBox hl hno,⟨⟨.inr rfl,w.heap.size,0,Ctx.set_self.1,rfl⟩,fun cs=>by simp⟩,Ext.set hno (Kn.le_addO _ _),
  fun o ho=>ho.imp id fun e=>by simp only at e ⊢;omega,fun x hx=>.inl hx⟩
def leavesOf:SV->Option (List Leaf)
 |.s (.one l)=>some [l]
 |.s (.agg ls)=>some ls
 |.tup _=>none
theorem zaQ {k:Nat->Prop}{sv:SV}{ls:List Leaf}{v:Value}(h:leavesOf sv=some ls)(hv:SVRel tab C k ρ sv v):LeavesRel tab C k ρ ls v.cells:=by
 cases sv with
 |tup=>cases h
 | s x =>
   cases x with
   | one l =>
     cases h
     obtain⟨h1,h2⟩:=hv
     have:v.cells = #[v]:=by cases v<;>first|rfl|exact absurd rfl (h2 _)
     rw[this]
     refine⟨rfl,fun i l' hi=>?_⟩
     cases i with
     |zero=>simp at hi;subst hi;exact⟨v,rfl,h1⟩
     |succ i=>simp at hi
   | agg ls' =>
     cases h
     obtain⟨vs,rfl,h2⟩:=hv
     exact h2
def anBox (Γ:Gam)(G:Grd)(nx no:Nat)(x:Operand):Option Res :=
 match (opd Γ G x).bind leavesOf with
 |some ls=>some ⟨.s (.one (.pb no 0)),[(no,some (G,.box true ls))],[],nx,no+1⟩
 |none=>none
theorem zhl (h:Rel tab Γ ρ tm w C kn Wr w0)(hG:holdsG ρ G){et:TypeId}{x:Operand}{r:Res}(hr:anBox Γ G nx no x=some r)(hf:∀o,no<=o->o<r.no->¬kn.o o){ds:List Deferred}
 {dst:Option Tmp} {ty:TypeId} {pos:String} {aft:Array Edge} {gd:Option (Nat × Bool)} :
 Yield P (execOp (Act.eval ⟨tm,ds⟩) ⟨dst,.box et x,ty,pos,aft,gd⟩) w fun v w'=>Post tab Γ ρ tm C kn Wr w0 nx no r v w':=by
 unfold anBox at hr
 split at hr
 case h_2=>cases hr
 rename_i ls hl
 cases hr
 cases hx:opd Γ G x with
 |none=>rw[hx]at hl;cases hl
 | some sv =>
   rw[hx]at hl
   have hls:=zaQ hl (zab h hG hx (ds:=ds))
   unfold Yield
   simp only[execOp,Instr.box,newVar,newRow,Sem.run_bind,run_newObj,Result.andThen_ok,Sem.run_pure]
   exact⟨_,_,rfl,Post.newBox h hls (hf no (Nat.le_refl _) (by simp))⟩
def zeroLeaf:CK->Leaf
 |.int k=>.int k (.int 0)
 |.bool=>.bool (.bool false)
 |.str=>.str (.str [])
 |.sl _=>.nil
 |_=>.dead
theorem zeZ {k:Nat->Prop}{ck:CK}{v:Value}(h:zeroIs ck v=true):LeafRel tab C k ρ (zeroLeaf ck) v:=by
 cases ck with
 | int q =>
   cases v<;>simp[zeroIs]at h
   obtain⟨h1,h2⟩:=h
   subst h1;subst h2;exact⟨0,rfl,rfl⟩
 | bool =>
   cases v<;>simp[zeroIs]at h
   subst h;exact⟨false,rfl,rfl⟩
 | str =>
   cases v with
   | string s =>
     have hs:s.data.size=0:=by simpa only[zeroIs,beq_iff_eq]using h
     have hd:s.data = #[]:=Array.eq_empty_of_size_eq_zero hs
     refine⟨s,?_,rfl⟩
     cases s with
     |mk d=>simp only at hd;subst hd;rfl
   |_=>simp[zeroIs]at h
 | sl e =>
   cases v with
   | slice a n c =>
     cases a<;>cases n<;>cases c<;>simp[zeroIs]at h
     rfl
   |_=>simp[zeroIs]at h
 |_=>trivial
theorem zcB {k:Nat->Prop}{cs:List CK}{vs:Array Value}(h:zerosAre cs vs.toList=true):LeavesRel tab C k ρ (cs.map zeroLeaf) vs:=by
 obtain⟨h1,h2⟩:=zaV h
 refine⟨by simpa using h1,fun i l hl=>?_⟩
 rw[List.getElem?_map]at hl
 cases hc:cs[i]? with
 |none=>rw[hc]at hl;cases hl
 | some c =>
   rw[hc]at hl;cases hl
   obtain⟨v,h3,h4⟩:=h2 i c hc
   exact⟨v,by simpa using h3,zeZ h4⟩
theorem zbf (hT:TabOk P tab){t:TypeId}{ti:TI}(h:tab.get t=some ti):∃z,(zeroValue t).run P w = .ok z w/\zerosAre ti.cks z.cells.toList=true/\isAggV z=ti.agg:=by
 obtain⟨i,z,h1,_,_,h2,h3,h4⟩:=(hT t ti h).inf
 refine⟨z,?_,h3,h4⟩
 simp only[zeroValue,typeInfo,Sem.run_bind,run_program,Result.andThen_ok,h1,Sem.run_pure,h2]
def anAlloc (tab:Tab)(G:Grd)(nx no:Nat)(t:TypeId):Option Res :=
 (tab.get t).map fun ti=>⟨.s (.one (.pb no 0)),[(no,some (G,.box true (ti.cks.map zeroLeaf)))],[],nx,no+1⟩
theorem zgl (hT:TabOk P tab)(h:Rel tab Γ ρ tm w C kn Wr w0){t:TypeId}{r:Res}(hr:anAlloc tab G nx no t=some r)(hf:∀o,no<=o->o<r.no->¬kn.o o){ds:List Deferred}
 {dst:Option Tmp} {ty:TypeId} {pos:String} {aft:Array Edge} {gd:Option (Nat × Bool)} :
 Yield P (execOp (Act.eval ⟨tm,ds⟩) ⟨dst,.alloc t,ty,pos,aft,gd⟩) w fun v w'=>Post tab Γ ρ tm C kn Wr w0 nx no r v w':=by
 unfold anAlloc at hr
 cases ht:tab.get t with
 |none=>rw[ht]at hr;cases hr
 | some ti =>
   rw[ht]at hr;cases hr
   obtain⟨z,hz,hzs,_⟩:=zbf (w:=w) hT ht
   unfold Yield
   simp only[execOp,Instr.alloc,Sem.run_bind,hz,Result.andThen_ok,newVar,newRow,run_newObj,Sem.run_pure]
   exact⟨_,_,rfl,Post.newBox h (zcB hzs) (hf no (Nat.le_refl _) (by simp))⟩
theorem zbT {b o n:Nat}{f:Nat->Value}(h:∀j,j<n->cellAt w b (o+j)=some (f j)) :
 (loadCells ⟨b,o,none⟩ n).run P w = .ok ((List.range n).map f).toArray w :=
 run_loadCells w ⟨b,o,none⟩ n f fun j hj=>by rw[zb4];exact h j hj
def svOf (ag:Bool)(ls:List Leaf):Option SV :=
 if ag then some (.s (.agg ls)) else match ls with
  |[.dead]=>none
  |[l]=>some (.s (.one l))
  |_=>none
theorem zbt (hT:TabOk P tab){t:TypeId}{ti:TI}(ht:tab.get t=some ti){b o:Nat}{ls:List Leaf}{k:Nat->Prop}{sv:SV}(hsv:svOf ti.agg ls=some sv)(hlen:ls.length=ti.size)
 (h:∀(j:Nat) l,ls[j]? = some l->∃v,cellAt w b (o+j)=some v/\LeafRel tab C k ρ l v) :
 ∃v,(Instr.loadAt t (.pointer (some ⟨b,o,none⟩))).run P w = .ok v w/\SVRel tab C k ρ sv v:=by
 simp only[Instr.loadAt,Instr.sureAddr,loadVar,Sem.run_bind,Sem.run_pure,Result.andThen_ok,zbC hT ht,Sem.run_ite]
 unfold svOf at hsv
 by_cases ha:ti.agg=true
 · rw[if_pos ha]at hsv ⊢
   cases hsv
   have hch:∀j,∃v,j<ti.size->cellAt w b (o+j)=some v/\∀l,ls[j]? = some l->LeafRel tab C k ρ l v:=by
    intro j
    by_cases hj:j<ti.size
    · obtain⟨l,hl⟩:∃l,ls[j]? = some l:=⟨_,List.getElem?_eq_getElem (by omega)⟩
      obtain⟨v,h1,h2⟩:=h j l hl
      exact⟨v,fun _=>⟨h1,fun l' hl'=>by rw[hl]at hl';cases hl';exact h2⟩⟩
    ·exact⟨undef,fun h=>absurd h hj⟩
   let f:Nat->Value:=fun j=>Classical.choose (hch j)
   have hf:∀j,j<ti.size->cellAt w b (o+j)=some (f j)/\∀l,ls[j]? = some l->LeafRel tab C k ρ l (f j):=fun j=>Classical.choose_spec (hch j)
   simp only[Sem.run_bind,zas hT ht,Result.andThen_ok,zbT (fun j hj=>(hf j hj).1),Sem.run_pure]
   refine⟨_,rfl,_,rfl,by simp[hlen],fun j l hl=>?_⟩
   have hj:=List.getD_some_lt hl
   exact⟨f j,by simp[hlen▸hj],(hf j (by omega)).2 l hl⟩
 · rw[if_neg ha]at hsv ⊢
   split at hsv
   ·cases hsv
   · rename_i l hne
     cases hsv
     obtain⟨v,h1,h2⟩:=h 0 l rfl
     rw[run_load]
     have:w.cell? ⟨b,o,none⟩=some v:=h1
     rw[this]
     exact⟨v,rfl,h2,h2.notAgg hne⟩
   ·cases hsv
end
end Gp
namespace Gp
open Go
section
variable {tab:Tab}{Γ:Gam}{ρ:Env}{tm:Array Value}{w:World}{C:Ctx}{kn:Kn}{Wr:CS}{w0:World}{P:Program}{I:Nat->List T->List T->Prop}{G:Grd}{nx no:Nat}
def cellE (k:Nat)(r:Exp)(j:Nat):Exp:=if Nat.beq k 1 then r else .un (.cell j) r
theorem zjz {k:Nat}{d i:Exp}{rows:List T}{m j:Nat}(hd:den ρ d = .list rows)(hi:den ρ i = .int m){r:Exp}(hr:den ρ r=den ρ (.bin .idx d i)):den ρ (cellE k r j)=cellT k rows m j:=by
 have h0:den ρ r=rows.getD m .hole:=by
  rw[hr];simp only[den,B.den,hd,hi,T.idx]
  rw[if_neg (by omega)];simp
 unfold cellE cellT
 by_cases hk:k=1
 ·subst hk;rw[if_pos (show Nat.beq 1 1=true from rfl),if_pos rfl];exact h0
 ·rw[if_neg (fun e=>hk (Nat.eq_of_beq_eq_true e)),if_neg hk];simp only[den,U.den,h0]
def rdCells (o:Nat)(dp vw:Bool)(G:Grd)(d i:Exp)(k:Nat)(r:Exp):List CK->Nat->Nat->Option (List Leaf × List (Nat × Option (Grd × Obj)) × List (Grd × SI) × Nat)
 |[],_,no=>some ([],[],[],no)
 | ck :: cks, j, no =>
   let e:=cellE k r j
   match ck with
   |.int q=>(rdCells o dp vw G d i k r cks (j+1) no).map fun(ls,ob,si,n)=>(.int q e::ls,ob,si,n)
   |.bool=>(rdCells o dp vw G d i k r cks (j+1) no).map fun(ls,ob,si,n)=>(.bool e::ls,ob,si,n)
   |.str=>(rdCells o dp vw G d i k r cks (j+1) no).map fun(ls,ob,si,n)=>(.str e::ls,ob,si,n)
   | .sl et2 => if vw then none else
     (rdCells o dp vw G d i k r cks (j+1) (no+1)).map fun(ls,ob,si,n) =>
      (.sl no et2 (.int 0) (.un .len e)::ls,(no,some (G,if dp then .view o d i j et2 e else .row false et2 e))::ob,(G,.chk (.un .isList e))::si,n)
   |_=>none
theorem zgV {t:T}(h:T.isList t = .bool true):∃l,t = .list l:=by
 cases t<;>simp[T.isList]at h
 exact⟨_,rfl⟩
theorem DRel.leafInt{k:Nat->Prop}{q:IntKind}{v:Value}{e:Exp}{F:CS}{dp:Bool}(h:DRel tab w dp (.int q) v (den ρ e) F):LeafRel tab C k ρ (.int q e) v:=by
 generalize hd:den ρ e=t at h
 cases h with
 |int=>exact⟨_,hd,rfl⟩
theorem DRel.leafBool{k:Nat->Prop}{v:Value}{e:Exp}{F:CS}{dp:Bool}(h:DRel tab w dp .bool v (den ρ e) F):LeafRel tab C k ρ (.bool e) v:=by
 generalize hd:den ρ e=t at h
 cases h with
 |bool=>exact⟨_,hd,rfl⟩
theorem DRel.leafStr{k:Nat->Prop}{v:Value}{e:Exp}{F:CS}{dp:Bool}(h:DRel tab w dp .str v (den ρ e) F):LeafRel tab C k ρ (.str e) v:=by
 generalize hd:den ρ e=t at h
 cases h with
 |str=>exact⟨_,hd,rfl⟩
theorem LeafRel.header{k:Nat->Prop}{o:Nat}{et:TypeId}{e:Exp}{a:Option Addr}{n c:Nat}{rs:List T}(hk:k o)(hA:C.A o=a)(hN:C.N o=n)(hK:C.K o=c)(he:den ρ e = .list rs)(hn:rs.length=n)(hc:n<=c)
 (ha:c=0\/∃b off,a=some ⟨b,off,none⟩):LeafRel tab C k ρ (.sl o et (.int 0) (.un .len e)) (.slice a n c):=by
 refine⟨hk,0,n,a,c,rfl,by simp[den,U.den,he,T.len,hn],rfl,by omega,hc,by omega,?_⟩
 rcases ha with h|⟨b,off,h⟩
 ·exact .inl h
 ·exact .inr ⟨b,off,by rw[hA,h],by simp[h]⟩
theorem zbG {o : Nat} {dp vw : Bool} {d i r : Exp} {pet : TypeId} {root : Nat} {gr : Grd} {obr : Obj} {m b base : Nat} {rows : List T} {ti : TI}
 (hG:holdsG ρ G) (hti:tab.get pet=some ti) (hd:den ρ d = .list rows) (hi:den ρ i = .int m) (hr:den ρ r=den ρ (.bin .idx d i)) (hm:m<C.N o) (hA:C.A o=some ⟨b,base,none⟩)
 (hmem:∀(q:Nat) ck,ti.cks[q]? = some ck->∃v F',cellAt w b (base+m*ti.size+q)=some v/\DRel tab w dp ck v (cellT ti.size rows m q) F'/\Sub F' (C.F root))
 (hkr:kn.o root) (hko:kn.o o) (hvo:vw=false->dp=true->∃x,d = .var x/\kn.v x) (hrow:vw=false->root=o/\obr = .row dp pet d) :
 ∀ (cks : List CK) (j : Nat) (no : Nat) (Γ : Gam) (C' : Ctx) (kn' : Kn) {ls ob si n}, rdCells o dp vw G d i ti.size r cks j no = some (ls, ob, si, n) -> (∀ (q : Nat) ck, cks[q]? = some ck -> ti.cks[j + q]? = some ck) ->
   Rel tab Γ ρ tm w C' kn' Wr w0->kn.le kn'->(∀x,kn.o x->C'.A x=C.A x/\C'.N x=C.N x/\C'.K x=C.K x/\C'.F x=C.F x)->Γ.obj root=some (gr,obr)->holdsG ρ gr->obr.isView=false ->
   HoldsS I ρ si->(∀x,no<=x->x<n->¬kn'.o x) ->
   ∃ C'' kn'', Rel tab (Γ.appOb ob) ρ tm w C'' kn'' Wr w0 /\ kn'.le kn'' /\ (∀ x, kn'.o x -> C''.A x = C'.A x /\ C''.N x = C'.N x /\ C''.K x = C'.K x) /\ no <= n /\
     (∀x,kn''.o x->kn'.o x\/(no<=x/\x<n))/\(∀x,kn''.v x->kn'.v x) /\
     ls.length=cks.length/\∀(q:Nat) l,ls[q]? = some l->∃v,cellAt w b (base+m*ti.size+(j+q))=some v/\LeafRel tab C'' kn''.o ρ l v
 | [], j, no, Γ, C', kn', ls, ob, si, n, hrd, _, h, hle, hC, _, _, _, _, _ => by
   cases hrd
   exact⟨C',kn',h,Kn.le.refl _,fun _ _=>⟨rfl,rfl,rfl⟩,Nat.le_refl _,fun _=>.inl,fun _=>id,rfl,fun q l hl=>by simp at hl⟩
 | ck :: cks, j, no, Γ, C', kn', ls, ob, si, n, hrd, hck, h, hle, hC, hor, hgr, hvr, hS, hfr => by
   have hck0:=hck 0 ck rfl
   simp only[Nat.add_zero]at hck0
   have hcks:∀(q:Nat) ck',cks[q]? = some ck'->ti.cks[j+1+q]? = some ck':=fun q ck' hq=>by rw[show j+1+q=j+(q+1) by omega];exact hck (q+1) ck' (by simpa using hq)
   obtain⟨v,F',m1,m2,m3⟩:=hmem j ck hck0
   have hce:=zjz (k:=ti.size) (j:=j) hd hi hr
   rw[<- hce]at m2
   have plain:∀{lf:Leaf} {ls' ob' si' n'},rdCells o dp vw G d i ti.size r cks (j+1) no=some (ls',ob',si',n')->ls=lf::ls'->ob=ob'->si=si'->n=n'->(∀(C'':Ctx) (k:Nat->Prop),LeafRel tab C'' k ρ lf v) ->
    ∃ C'' kn'', Rel tab (Γ.appOb ob) ρ tm w C'' kn'' Wr w0 /\ kn'.le kn'' /\ (∀ x, kn'.o x -> C''.A x = C'.A x /\ C''.N x = C'.N x /\ C''.K x = C'.K x) /\ no <= n /\
      (∀x,kn''.o x->kn'.o x\/(no<=x/\x<n))/\(∀x,kn''.v x->kn'.v x) /\
      ls.length=(ck::cks).length/\∀(q:Nat) l,ls[q]? = some l->∃v,cellAt w b (base+m*ti.size+(j+q))=some v/\LeafRel tab C'' kn''.o ρ l v:=by
    rintro lf ls' ob' si' n' hrec rfl rfl rfl rfl hlf
    obtain⟨C'',kn'',q1,q2,q3,q4,q5,q5v,q6,q7⟩:=zbG hG hti hd hi hr hm hA hmem hkr hko hvo hrow cks (j+1) no Γ C' kn' hrec hcks h hle hC hor hgr hvr hS hfr
    refine⟨C'',kn'',q1,q2,q3,q4,q5,q5v,by simp[q6],fun q l hl=>?_⟩
    cases q with
    |zero=>simp at hl;subst hl;exact⟨v,m1,hlf _ _⟩
    | succ q =>
      obtain⟨v',h1,h2⟩:=q7 q l (by simpa using hl)
      exact⟨v',by rw[show j+(q+1)=j+1+q by omega];exact h1,h2⟩
   simp only[rdCells]at hrd
   cases ck with
   | int q =>
     cases hrec:rdCells o dp vw G d i ti.size r cks (j+1) no with
     |none=>rw[hrec]at hrd;cases hrd
     | some y =>
       obtain⟨ls',ob',si',n'⟩:=y
       rw[hrec]at hrd;cases hrd
       exact plain hrec rfl rfl rfl rfl fun C'' k=>DRel.leafInt m2
   | bool =>
     cases hrec:rdCells o dp vw G d i ti.size r cks (j+1) no with
     |none=>rw[hrec]at hrd;cases hrd
     | some y =>
       obtain⟨ls',ob',si',n'⟩:=y
       rw[hrec]at hrd;cases hrd
       exact plain hrec rfl rfl rfl rfl fun C'' k=>DRel.leafBool m2
   | str =>
     cases hrec:rdCells o dp vw G d i ti.size r cks (j+1) no with
     |none=>rw[hrec]at hrd;cases hrd
     | some y =>
       obtain⟨ls',ob',si',n'⟩:=y
       rw[hrec]at hrd;cases hrd
       exact plain hrec rfl rfl rfl rfl fun C'' k=>DRel.leafStr m2
   | sl et2 =>
     dsimp only at hrd
     by_cases hvw:vw=true
     ·simp[hvw]at hrd
     rw[if_neg hvw]at hrd
     have hvw':vw=false:=by simpa using hvw
     obtain⟨hro,hrob⟩:=hrow hvw'
     subst hro
     cases hrec:rdCells root dp vw G d i ti.size r cks (j+1) (no+1) with
     |none=>rw[hrec]at hrd;cases hrd
     | some y =>
       obtain⟨ls',ob',si',n'⟩:=y
       rw[hrec]at hrd
       simp only[Option.map_some,Option.some.injEq,Prod.mk.injEq]at hrd
       obtain⟨h1,h2,h3,h4⟩:=hrd
       subst h1;subst h2;subst h3;subst h4
       have hchk:=hS (G,.chk (.un .isList (cellE ti.size r j))) (by simp) hG
       simp only[SIok,den,U.den]at hchk
       obtain⟨rs,hrs⟩:=zgV hchk
       obtain⟨va,vn,vc,rfl⟩:=m2.isSlice
       rw[hrs]at m2
       obtain⟨hd1,hd2,hd3⟩:=m2.header
       have hno:¬kn'.o no:=by
        refine hfr no (Nat.le_refl _) ?_
        by_cases hlt:no<n'
        ·exact hlt
        · exfalso
          have : ∀ (cks : List CK) (j no : Nat) {ls ob si n}, rdCells root dp vw G d i ti.size r cks j no = some (ls, ob, si, n) -> no <= n := by
           intro cks
           induction cks with
           |nil=>intro j no ls ob si n h;cases h;exact Nat.le_refl _
           | cons c cs ih =>
             intro j no ls ob si n h
             simp only[rdCells]at h
             cases c with
             | int q => cases hq : rdCells root dp vw G d i ti.size r cs (j + 1) no with
               |none=>rw[hq]at h;cases h
               |some y=>rw[hq]at h;cases h;exact ih _ _ hq
             | bool => cases hq : rdCells root dp vw G d i ti.size r cs (j + 1) no with
               |none=>rw[hq]at h;cases h
               |some y=>rw[hq]at h;cases h;exact ih _ _ hq
             | str => cases hq : rdCells root dp vw G d i ti.size r cs (j + 1) no with
               |none=>rw[hq]at h;cases h
               |some y=>rw[hq]at h;cases h;exact ih _ _ hq
             | sl e => dsimp only at h; rw [if_neg hvw] at h; cases hq : rdCells root dp vw G d i ti.size r cs (j + 1) (no + 1) with
               |none=>rw[hq]at h;cases h
               |some y=>rw[hq]at h;cases h;exact Nat.le_trans (Nat.le_succ _) (ih _ _ hq)
             |_=>cases h
          have:=this _ _ _ hrec;omega
       have hne:∀x,kn'.o x->x≠no:=fun x hx e=>hno (e▸hx)
       have hkroot:=hle.1 root hkr
       have hstep : Rel tab (Γ.setOb no (G, if dp then .view root d i j et2 (cellE ti.size r j) else .row false et2 (cellE ti.size r j))) ρ tm w (C'.set no va vn vc F') (kn'.addO no) Wr w0 := by
        refine h.addOb hno ?_ (fun _=>?_) (fun _ hown=>?_) (fun _ hvw2 o' g' ob'' ho' hg' hown'=>?_) (fun _ hown=>?_)
        · cases dp with
          |false=>trivial
          |true=>obtain⟨x,hx1,hx2⟩:=hvo hvw' rfl;exact⟨hkroot,x,hx1,hle.2 x hx2⟩
        · cases dp with
          | false =>
            exact⟨rs,hrs,by rw[Ctx.set_self.1,Ctx.set_self.2.1,Ctx.set_self.2.2.1,Ctx.set_self.2.2.2];exact m2⟩
          | true =>
            intro gp pet' hp hgp
            rw[if_pos rfl]at hp
            rw[Gam.obj_setOb_ne _ _ (Ne.symm (hne root hkroot)),hor,hrob]at hp
            cases hp
            have hsz:tab.sz pet=ti.size:=by simp[Tab.sz,hti]
            refine⟨m,b,base,rows,hi,?_,?_,hd,.inr ⟨rs,hrs,?_,?_⟩,⟨ti,hti,hck0⟩,?_⟩
            ·rw[(Ctx.set_ne (hne root hkroot)).2.1,(hC root hkr).2.1];exact hm
            ·rw[(Ctx.set_ne (hne root hkroot)).1,(hC root hkr).1];exact hA
            ·rw[Ctx.set_self.2.1];exact hd1
            ·rw[hsz,<- hce];exact hrs
            ·rw[Ctx.set_self.1,Ctx.set_self.2.1,Ctx.set_self.2.2.1,hsz];exact m1
        ·cases dp<;>simp[Obj.owned]at hown
        · cases dp with
          | false =>
            have hne2:o'≠root:=by
             rintro rfl
             rw[hor,hrob]at ho';cases ho';cases hown'
            refine (h.dis o' root g' gr ob'' obr ho' hor hg' hgr hne2 hown' hvr).sub (Sub.refl _) ?_
            rw[(hC root hkr).2.2.2];exact m3
          |true=>cases hvw2
        ·cases dp<;>simp[Obj.owned]at hown
       have hor':(Γ.setOb no (G,if dp then .view root d i j et2 (cellE ti.size r j) else .row false et2 (cellE ti.size r j))).obj root=some (gr,obr):=by
        rw[Gam.obj_setOb_ne _ _ (Ne.symm (hne root hkroot))];exact hor
       obtain⟨C'',kn'',q1,q2,q3,q4,q5,q5v,q6,q7⟩:=zbG hG hti hd hi hr hm hA hmem hkr hko hvo hrow cks (j+1) (no+1) _ _ (kn'.addO no) hrec hcks hstep
        ⟨fun x hx=>.inl (hle.1 x hx),hle.2⟩ (fun x hx=>by
         have hx':=hne x (hle.1 x hx)
         rw[(Ctx.set_ne hx').1,(Ctx.set_ne hx').2.1,(Ctx.set_ne hx').2.2.1,(Ctx.set_ne hx').2.2.2];exact hC x hx) hor' hgr hvr (fun x hx=>hS x (by simp[hx])) (fun x h1 h2 h3=>h3.elim (hfr x (by omega) h2) (by omega))
       refine⟨C'',kn'',q1,⟨fun x hx=>q2.1 x (.inl hx),q2.2⟩,fun x hx=>?_,by omega,fun x hx=>?_,q5v,by simp[q6],fun q l hl=>?_⟩
       · obtain⟨e1,e2,e3⟩:=q3 x (.inl hx)
         have hx':=hne x hx
         rw[(Ctx.set_ne hx').1]at e1;rw[(Ctx.set_ne hx').2.1]at e2;rw[(Ctx.set_ne hx').2.2.1]at e3
         exact⟨e1,e2,e3⟩
       · rcases q5 x hx with (h1|h1)|h1
         ·exact .inl h1
         ·exact .inr ⟨by omega,by omega⟩
         ·exact .inr ⟨by omega,h1.2⟩
       · cases q with
         | zero =>
           simp at hl;subst hl
           obtain⟨e1,e2,e3⟩:=q3 no (.inr rfl)
           rw[Ctx.set_self.1]at e1;rw[Ctx.set_self.2.1]at e2;rw[Ctx.set_self.2.2.1]at e3
           exact⟨_,m1,LeafRel.header (q2.1 no (.inr rfl)) e1 e2 e3 hrs hd1 hd2 hd3⟩
         | succ q =>
           obtain⟨v',h1,h2⟩:=q7 q l (by simpa using hl)
           exact⟨v',by rw[show j+(q+1)=j+1+q by omega];exact h1,h2⟩
   |ptr=>cases hrd
   |fnc=>cases hrd
   |mp=>cases hrd
   |other=>cases hrd
theorem Gam.appOb_append(Γ:Gam)(a b:List (Nat × Option (Grd × Obj))):Γ.appOb (a++b)=(Γ.appOb a).appOb b:=by
 induction a generalizing Γ with
 |nil=>rfl
 | cons x r ih =>
   obtain⟨o,x⟩:=x
   cases x<;>simp only[List.cons_append,Gam.appOb]<;>exact ih _
def anLoad (tab:Tab)(Γ:Gam)(G:Grd)(nx no:Nat)(t:TypeId)(a:Operand):Option Res :=
 match opd Γ G a,tab.get t with
 | some (.s (.one (.pb o j))), some ti =>
   match Γ.obj o with
   | some (g, .box _ cells) =>
     if impl G g&&Nat.beq ((cells.drop j).take ti.size).length ti.size then (svOf ti.agg ((cells.drop j).take ti.size)).map fun sv=>⟨sv,[],[],nx,no⟩ else none
   |_=>none
 | some (.s (.one (.pe o et i j))), some ti =>
   match rowOf Γ G o,tab.get et with
   | some (dp, et', d, vw), some te =>
     if Nat.beq et et'&&Nat.beq ((te.cks.drop j).take ti.size).length ti.size then
      match rdCells o dp vw G d i te.size (if ti.agg then .var nx else .bin .idx d i) ((te.cks.drop j).take ti.size) j no with
      |some (ls,ob,si,n)=>(svOf ti.agg ls).map fun sv=>⟨sv,ob,if ti.agg then (G,.set nx (.bin .idx d i))::si else si,if ti.agg then nx+1 else nx,n⟩
      |none=>none
     else none
   |_,_=>none
 |_,_=>none
theorem zdT (hT : TabOk P tab) (h : Rel tab Γ ρ tm w C kn Wr w0) (hG : holdsG ρ G) {t : TypeId} {x : Operand} {r : Res} (hr : anLoad tab Γ G nx no t x = some r) (hS : HoldsS I ρ r.sis)
 (hf:∀o,no<=o->o<r.no->¬kn.o o) {ds:List Deferred}
 {dst:Option Tmp} {ty:TypeId} {pos:String} {aft:Array Edge} {gd:Option (Nat × Bool)} :
 Yield P (execOp (Act.eval ⟨tm,ds⟩) ⟨dst,.load t x,ty,pos,aft,gd⟩) w fun v w'=>w'=w/\Post tab Γ ρ tm C kn Wr w0 nx no r v w':=by
 unfold anLoad at hr
 unfold Yield
 split at hr
 · rename_i o j ti hx hti
   split at hr
   case h_2=>cases hr
   rename_i g rw' cells ho
   split at hr
   case isFalse=>cases hr
   rename_i hc
   simp only[Bool.and_eq_true]at hc
   obtain⟨hc1,hc2⟩:=hc
   have hc2:=Nat.eq_of_beq_eq_true hc2
   cases hsv:svOf ti.agg ((cells.drop j).take ti.size) with
   |none=>rw[hsv]at hr;cases hr
   | some sv =>
     rw[hsv]at hr;cases hr
     obtain⟨⟨hk,b,base,hA,hv⟩,_⟩:=zab h hG hx (ds:=ds)
     obtain⟨b',base',⟨_,hA'⟩,hF,hcell,_⟩:=(h.obs o g _ ho).2.2 (zax hc1 hG)
     rw[hA]at hA';cases hA'
     obtain⟨v,hrun,hrel⟩:=zbt (w:=w) (C:=C) (ρ:=ρ) (k:=kn.o) hT hti (b:=b) (o:=base+j) hsv hc2 (fun q l hq=>by
      have hq':=List.getD_some_lt hq
      rw[hc2]at hq'
      rw[List.getElem?_take_of_lt hq',List.getElem?_drop]at hq
      obtain⟨v,h1,h2⟩:=hcell _ _ hq
      exact⟨v,by rw[Nat.add_assoc];exact h1,h2⟩)
     simp only[execOp,hv,Sem.run_bind,hrun,Result.andThen_ok,Sem.run_pure]
     exact⟨_,_,rfl,rfl,Post.pure h rfl hrel⟩
 · rename_i o et i j ti hx hti
   split at hr
   case h_2=>cases hr
   rename_i dp et' d vw te hrow hte
   split at hr
   case isFalse=>cases hr
   rename_i hc
   simp only[Bool.and_eq_true]at hc
   obtain⟨hc1,hc2⟩:=hc
   have hc1:=Nat.eq_of_beq_eq_true hc1
   have hc2:=Nat.eq_of_beq_eq_true hc2
   subst hc1
   split at hr
   case h_2=>cases hr
   rename_i ls ob si n hrd
   cases hsv:svOf ti.agg ls with
   |none=>rw[hsv]at hr;cases hr
   | some sv =>
     rw[hsv]at hr;cases hr
     obtain⟨⟨hk,m,b,base,hi,hm,hA,hv⟩,_⟩:=zab h hG hx (ds:=ds)
     obtain⟨rows,F',root,gr,obr,hd,hD,hroot,hgr,hvr,hsub,hvw⟩:=zaF h hG hrow
     have hsz:tab.sz et=te.size:=by simp[Tab.sz,hte]
     have hkroot:=(h.obs root gr obr hroot).1
     have hr0:den ρ (if ti.agg then Exp.var nx else .bin .idx d i)=den ρ (.bin .idx d i):=by
      by_cases ha:ti.agg=true
      · rw[if_pos ha]
        simp only at hS
        rw[if_pos ha]at hS
        exact hS (G,.set nx (.bin .idx d i)) (by simp) hG
      ·rw[if_neg ha]
     have hSsi:HoldsS I ρ si:=by
      simp only at hS
      intro y hy
      refine hS y ?_
      split
      ·exact List.mem_cons_of_mem _ hy
      ·exact hy
     rw[hA]at hD
     obtain⟨C'',kn'',q1,q2,q3,q4,q5,q5v,q6,q7⟩:=zbG (I:=I) (C:=C) (kn:=kn) (root:=root) (gr:=gr) (obr:=obr) (pet:=et) hG hte hd hi hr0 hm hA
      (fun q ck hq=>by
       obtain⟨v,Fx,g1,g2,g3⟩:=hD.get hte hm hq
       exact⟨v,Fx,g1,g2,g3.trans hsub⟩) hkroot hk (fun hvw' hdp=>by
       obtain⟨e1,e2⟩:=hvw hvw'
       have:=(h.obs root gr obr hroot).2.1
       rw[e2,hdp]at this
       rw[hvw']at hrow
       exact this.var (zk0 hrow)) hvw _ j no Γ C kn hrd (fun q ck hq=>by
       have hq':=List.getD_some_lt hq
       rw[hc2]at hq'
       rw[List.getElem?_take_of_lt hq',List.getElem?_drop]at hq;exact hq) h (Kn.le.refl _) (fun _ _=>⟨rfl,rfl,rfl,rfl⟩) hroot hgr hvr hSsi hf
     obtain⟨v,hrun,hrel⟩:=zbt (w:=w) (C:=C'') (ρ:=ρ) (k:=kn''.o) hT hti (b:=b) (o:=base+m*te.size+j) hsv (by rw[q6,hc2]) (fun q l hq=>by
      obtain⟨v,h1,h2⟩:=q7 q l hq
      exact⟨v,by rw[Nat.add_assoc];exact h1,h2⟩)
     rw[hsz]at hv
     simp only[execOp,hv,Sem.run_bind,hrun,Result.andThen_ok,Sem.run_pure]
     exact⟨_,_,rfl,rfl,C'',kn'',q1,hrel,⟨q2,fun o ho=>q3 o ho⟩,q5,fun x hx=>.inl (q5v x hx)⟩
 ·cases hr
theorem zgv (hT:TabOk P tab)(h:Rel tab Γ ρ tm w C kn Wr w0)(hG:holdsG ρ G){t:TypeId}{x:Operand}{r:Res}(hr:anLoad tab Γ G nx no t x=some r)(hS:HoldsS I ρ r.sis)
 (hf:∀o,no<=o->o<r.no->¬kn.o o) {ds:List Deferred}
 {dst:Option Tmp} {ty:TypeId} {pos:String} {aft:Array Edge} {gd:Option (Nat × Bool)} :
 Yield P (execOp (Act.eval ⟨tm,ds⟩) ⟨dst,.load t x,ty,pos,aft,gd⟩) w fun v w'=>Post tab Γ ρ tm C kn Wr w0 nx no r v w':=by
 obtain⟨v,w',e1,_,e2⟩:=zdT hT h hG hr hS hf (ds:=ds) (dst:=dst) (ty:=ty) (pos:=pos) (aft:=aft) (gd:=gd)
 exact⟨v,w',e1,e2⟩
def anNil (Γ:Gam)(G:Grd)(nx no:Nat)(x:Operand):Option Res :=
 match opd Γ G x with
 |some (.s (.one (.pb o j)))=>some ⟨.s (.one (.pb o j)),[],[],nx,no⟩
 |some (.s (.one (.pe o et i j)))=>some ⟨.s (.one (.pe o et i j)),[],[],nx,no⟩
 |some (.s (.one (.fn f c)))=>some ⟨.s (.one (.fn f c)),[],[],nx,no⟩
 |_=>none
theorem zh9 (h:Rel tab Γ ρ tm w C kn Wr w0)(hG:holdsG ρ G){x:Operand}{r:Res}(hr:anNil Γ G nx no x=some r){ds:List Deferred}
 {dst:Option Tmp} {ty:TypeId} {pos:String} {aft:Array Edge} {gd:Option (Nat × Bool)} :
 Yield P (execOp (Act.eval ⟨tm,ds⟩) ⟨dst,.nilCheck x,ty,pos,aft,gd⟩) w fun v w'=>Post tab Γ ρ tm C kn Wr w0 nx no r v w':=by
 unfold anNil at hr
 unfold Yield
 split at hr
 · rename_i o j hx
   cases hr
   have hsv:=zab h hG hx (ds:=ds)
   obtain⟨⟨hk,b,base,hA,hv⟩,_⟩:=hsv
   simp only[execOp,hv,Sem.run_pure]
   exact⟨_,_,rfl,Post.pure h rfl (by rw[<- hv];exact zab h hG hx)⟩
 · rename_i o et i j hx
   cases hr
   have hsv:=zab h hG hx (ds:=ds)
   obtain⟨⟨hk,m,b,base,hi,hm,hA,hv⟩,_⟩:=hsv
   simp only[execOp,hv,Sem.run_pure]
   exact⟨_,_,rfl,Post.pure h rfl (by rw[<- hv];exact zab h hG hx)⟩
 · rename_i f c hx
   cases hr
   have hsv:=zab h hG hx (ds:=ds)
   obtain⟨⟨vs,hv,hrest⟩,_⟩:=hsv
   simp only[execOp,hv,Sem.run_pure]
   exact⟨_,_,rfl,Post.pure h rfl (by rw[<- hv];exact zab h hG hx)⟩
 ·cases hr
def capOf:SV->Option Nat
 |.s (.one (.pb o 0))=>some o
 |_=>none
def anFunc (Γ:Gam)(G:Grd)(nx no:Nat)(f:Fn)(first captured:Array Operand):Option Res :=
 match f,first.toList,captured.toList.mapM fun x=>(opd Γ G x).bind capOf with
 |.func f,[],some caps=>some ⟨.s (.one (.fn f caps)),[],[],nx,no⟩
 |_,_,_=>none
theorem zgK (h:Rel tab Γ ρ tm w C kn Wr w0)(hG:holdsG ρ G){f:Fn}{first captured:Array Operand}{r:Res}(hr:anFunc Γ G nx no f first captured=some r){ds:List Deferred}
 {dst:Option Tmp} {ty:TypeId} {pos:String} {aft:Array Edge} {gd:Option (Nat × Bool)} :
 Yield P (execOp (Act.eval ⟨tm,ds⟩) ⟨dst,.makeFunc f first captured,ty,pos,aft,gd⟩) w fun v w'=>Post tab Γ ρ tm C kn Wr w0 nx no r v w':=by
 unfold anFunc at hr
 unfold Yield
 split at hr
 case h_2=>cases hr
 rename_i f caps hfirst hcaps
 cases hr
 have hfirst:first = #[]:=by apply Array.ext';simpa using hfirst
 subst hfirst
 obtain⟨h1,h2⟩:=zaI hcaps
 simp only[execOp,Instr.makeFunc,Sem.run_bind,Sem.run_pure,Result.andThen_ok]
 refine⟨_,_,rfl,Post.pure h rfl ⟨⟨captured.map (Act.eval ⟨tm,ds⟩),by simp,by simpa using h1.symm,fun i o hi=>?_⟩,fun cs=>by simp⟩⟩
 obtain⟨x,hx1,hx2⟩:=h2 i o hi
 cases hx:opd Γ G x with
 |none=>rw[hx]at hx2;cases hx2
 | some sv =>
   rw[hx]at hx2
   simp only[Option.bind_some]at hx2
   unfold capOf at hx2
   split at hx2
   · cases hx2
     obtain⟨⟨hk,b,base,hA,hv⟩,_⟩:=zab h hG hx (ds:=ds)
     refine⟨hk,b,base,hA,?_⟩
     have:captured[i]? = some x:=by simpa using hx1
     rw[Array.getElem?_map,this]
     simp only[Option.map_some,hv,Nat.add_zero]
   ·cases hx2
end
end Gp
