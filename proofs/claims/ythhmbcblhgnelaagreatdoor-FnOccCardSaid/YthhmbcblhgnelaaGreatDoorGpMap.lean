import Derived.Test.YthhmbcblhgnelaaGreatDoorGpOp13
import Derived.MapKept
import Derived.Laws.BytesString
set_option linter.unusedVariables false
set_option linter.unusedSimpArgs false
namespace Gp
open Go
section
variable {tab:Tab}{Γ:Gam}{ρ:Env}{tm:Array Value}{w:World}{C:Ctx}{kn:Kn}{Wr:CS}{w0:World}{P:Program}{I:Nat->List T->List T->Prop}{G:Grd}{nx no:Nat}
theorem zk8 (n m:ByteArray):(n==m)=true↔n=m:=by
 cases n with|mk a =>
 cases m with|mk b =>
 constructor
 · intro h
   have:(a==b)=true:=h
   rw[eq_of_beq this]
 · intro h
   cases h
   show (a==a)=true
   exact beq_self_eq_true a
def tdCk:TD->Option CK
 |.int k=>some (.int k)
 |.bool=>some .bool
 |.str=>some .str
 |_=>none
def mapTy (tab:Tab)(t:TypeId):Option (TypeId × TypeId × CK × CK):=match tab.get t with
 | some ti => match ti.td with
   | .mp kt vt => match tab.get kt, tab.get vt with
     | some ki, some vi => match tdCk ki.td, tdCk vi.td with
       |some k,some v=>some (kt,vt,k,v)
       |_,_=>none
     |_,_=>none
   |_=>none
 |none=>none
def leafCk:Leaf->Option (CK × Exp)
 |.int k e=>some (.int k,e)
 |.bool e=>some (.bool,e)
 |.str e=>some (.str,e)
 |_=>none
def ckLeaf:CK->Exp->Option Leaf
 |.int k,e=>some (.int k e)
 |.bool,e=>some (.bool e)
 |.str,e=>some (.str e)
 |_,_=>none
def ckZero:CK->Exp
 |.int _=>.int 0
 |.bool=>.bool false
 |_=>.str []
theorem zf0 (hT:TabOk P tab){t kt vt:TypeId}{k v:CK}(h:mapTy tab t=some (kt,vt,k,v)) :
 P.underlying t=some (.map kt vt)/\∃ki vi,tab.get kt=some ki/\tab.get vt=some vi/\tdCk ki.td=some k/\tdCk vi.td=some v:=by
 unfold mapTy at h
 split at h
 case h_2=>cases h
 rename_i ti hti
 split at h
 case h_2=>cases h
 rename_i kt' vt' htd
 split at h
 case h_2=>cases h
 rename_i ki vi hk hv
 split at h
 case h_2=>cases h
 rename_i k' v' h1 h2
 cases h
 obtain⟨d,h3,h4,_⟩:=zbW hT hti
 rw[htd]at h4
 cases d<;>simp[tdChk]at h4
 obtain⟨rfl,rfl⟩:=h4
 exact⟨h3,ki,vi,hk,hv,h1,h2⟩
theorem zhg {kk:Nat->Prop}{l:Leaf}{k:CK}{e:Exp}{u:Value}(h:leafCk l=some (k,e))(hl:LeafRel tab C kk ρ l u):Scal k u (den ρ e):=by
 unfold leafCk at h
 split at h<;>cases h
 ·obtain⟨n,h1,rfl⟩:=hl;exact⟨n,rfl,h1⟩
 ·obtain⟨n,h1,rfl⟩:=hl;exact⟨n,rfl,h1⟩
 ·obtain⟨n,h1,rfl⟩:=hl;exact⟨n,rfl,h1⟩
theorem zfx {kk:Nat->Prop}{k:CK}{e:Exp}{l:Leaf}{u:Value}(h:ckLeaf k e=some l)(hs:Scal k u (den ρ e)):LeafRel tab C kk ρ l u/\∀cs,u ≠ .agg cs:=by
 unfold ckLeaf at h
 split at h<;>cases h
 ·obtain⟨n,rfl,h1⟩:=hs;exact⟨⟨n,h1,rfl⟩,fun cs=>by simp⟩
 ·obtain⟨n,rfl,h1⟩:=hs;exact⟨⟨n,h1,rfl⟩,fun cs=>by simp⟩
 ·obtain⟨n,rfl,h1⟩:=hs;exact⟨⟨n,h1,rfl⟩,fun cs=>by simp⟩
theorem ziY (hT:TabOk P tab){t:TypeId}{ti:TI}{k:CK}(h:tab.get t=some ti)(hk:tdCk ti.td=some k) :
 ∃d,P.underlying t=some d/\((∃q,k = .int q/\d = .int q)\/(k = .bool/\d = .bool)\/(k = .str/\d = .string)):=by
 obtain⟨d,h1,h2,_⟩:=zbW hT h
 refine⟨d,h1,?_⟩
 cases hd:ti.td<;>rw[hd]at hk h2<;>simp[tdCk]at hk<;>subst hk<;>cases d<;>simp[tdChk]at h2
 ·subst h2;exact .inl ⟨_,rfl,rfl⟩
 ·exact .inr (.inl ⟨rfl,rfl⟩)
 ·exact .inr (.inr ⟨rfl,rfl⟩)
theorem zfF {k:CK}{d:TypeDesc}(hd:(∃q,k = .int q/\d = .int q)\/(k = .bool/\d = .bool)\/(k = .str/\d = .string)){u u':Value}{a b:T}(h:Scal k u a)(h':Scal k u' b) :
 Instr.sameNow d u u'=some (T.keyEq a b)/\(T.keyEq a b=true->u'=u/\a=b):=by
 rcases hd with⟨q,rfl,rfl⟩|⟨rfl,rfl⟩|⟨rfl,rfl⟩
 · obtain⟨n,rfl,rfl⟩:=h
   obtain⟨m,rfl,rfl⟩:=h'
   refine⟨by simp[Instr.sameNow,T.keyEq],fun e=>?_⟩
   have:n=m:=by simpa[T.keyEq]using e
   subst this;exact⟨rfl,rfl⟩
 · obtain⟨n,rfl,rfl⟩:=h
   obtain⟨m,rfl,rfl⟩:=h'
   refine⟨by simp[Instr.sameNow,T.keyEq],fun e=>?_⟩
   have:n=m:=by simpa[T.keyEq]using e
   subst this;exact⟨rfl,rfl⟩
 · obtain⟨n,rfl,rfl⟩:=h
   obtain⟨m,rfl,rfl⟩:=h'
   refine⟨by simp[Instr.sameNow,T.keyEq],fun e=>?_⟩
   have:n=m:=(zk8 n m).1 e
   subst this;exact⟨rfl,rfl⟩
theorem find_rel{k v:CK}{d:TypeDesc}(hd:(∃q,k = .int q/\d = .int q)\/(k = .bool/\d = .bool)\/(k = .str/\d = .string)){u:Value}{a:T}(hu:Scal k u a) :
 ∀ {es : List MapEntry} {ents : List T} (i : Nat), MapRel k v es ents ->
   (Instr.findNow d u es i=some none/\T.mfind a ents=none) \/
   (∃j e x,Instr.findNow d u es i=some (some (i+j,e.val))/\es[j]? = some e/\e.key=u/\T.mfind a ents=some x/\Scal v e.val x)
 |[],[],i,_=>.inl ⟨rfl,rfl⟩
 |[],_::_,i,h=>by cases h
 |_::_,[],i,h=>by cases h
 | e :: es, t :: ts, i, h => by
   obtain⟨⟨b,c,rfl,h1,h2⟩,h3⟩:=h
   obtain⟨s1,s2⟩:=zfF hd hu h1
   simp only[Instr.findNow,T.mfind,s1]
   cases hk:T.keyEq a b with
   |true=>exact .inr ⟨0,e,c,by simp,rfl,(s2 hk).1,by simp,h2⟩
   | false =>
     simp only[Bool.false_eq_true,if_false]
     rcases find_rel hd hu (i+1) h3 with⟨g1,g2⟩|⟨j,e',x,g1,g2,g3,g4,g5⟩
     ·exact .inl ⟨g1,g2⟩
     ·exact .inr ⟨j+1,e',x,by rw[g1];congr 3;omega,by simpa using g2,g3,g4,g5⟩
theorem zis {k v:CK}{d:TypeDesc}(hd:(∃q,k = .int q/\d = .int q)\/(k = .bool/\d = .bool)\/(k = .str/\d = .string)){u x:Value}{a c:T}(hu:Scal k u a)(hx:Scal v x c){n:Nat} :
 ∀{es:List MapEntry} {ents:List T} (i:Nat),MapRel k v es ents->Instr.findNow d u es i=some none->MapRel k v (es ++ [{ key:=u,val:=x,born:=n }]) (T.mput a c ents)
 |[],[],i,_,_=>⟨⟨a,c,rfl,hu,hx⟩,trivial⟩
 |[],_::_,i,h,_=>by cases h
 |_::_,[],i,h,_=>by cases h
 | e :: es, t :: ts, i, h, hf => by
   obtain⟨⟨b,c',rfl,h1,h2⟩,h3⟩:=h
   obtain⟨s1,s2⟩:=zfF hd hu h1
   simp only[Instr.findNow,s1]at hf
   cases hk:T.keyEq a b with
   |true=>rw[hk]at hf;simp at hf
   | false =>
     rw[hk]at hf
     simp only[T.mput,hk,Bool.false_eq_true,if_false,List.cons_append]
     exact⟨⟨b,c',rfl,h1,h2⟩,zis hd hu hx (i+1) h3 hf⟩
theorem zig {k v:CK}{d:TypeDesc}(hd:(∃q,k = .int q/\d = .int q)\/(k = .bool/\d = .bool)\/(k = .str/\d = .string)){u x:Value}{a c:T}(hu:Scal k u a)(hx:Scal v x c) :
 ∀{es:List MapEntry} {ents:List T} (i j:Nat) (y:Value),MapRel k v es ents->Instr.findNow d u es i=some (some (i+j,y))->MapRel k v (es.modify j fun e=>{ e with key:=u,val:=x }) (T.mput a c ents)
 |[],_,i,j,y,_,hf=>by simp[Instr.findNow]at hf
 |_::_,[],i,j,y,h,_=>by cases h
 | e :: es, t :: ts, i, j, y, h, hf => by
   obtain⟨⟨b,c',rfl,h1,h2⟩,h3⟩:=h
   obtain⟨s1,s2⟩:=zfF hd hu h1
   simp only[Instr.findNow,s1]at hf
   cases hk:T.keyEq a b with
   | true =>
     rw[hk]at hf
     simp only[Option.some.injEq,Prod.mk.injEq]at hf
     have:j=0:=by omega
     subst this
     simp only[T.mput,hk,if_true]
     exact⟨⟨a,c,rfl,hu,hx⟩,h3⟩
   | false =>
     rw[hk]at hf
     dsimp only at hf
     cases j with
     | zero =>
       exfalso
       rcases find_rel (v:=v) hd hu (i+1) h3 with⟨g1,_⟩|⟨j,e',x,g1,_⟩
       ·rw[g1]at hf;cases hf
       · rw[g1]at hf
         simp only[Option.some.injEq,Prod.mk.injEq]at hf
         omega
     | succ j =>
       simp only[T.mput,hk,Bool.false_eq_true,if_false,List.modify_succ_cons]
       exact⟨⟨b,c',rfl,h1,h2⟩,zig hd hu hx (i+1) j y h3 (by rw[hf];congr 3;omega)⟩
def anMakeMap(tab:Tab)(G:Grd)(nx no:Nat)(t:TypeId)(r:Option Operand):Option Res :=
 match r,mapTy tab t with
 |none,some (_,_,k,v)=>some ⟨.s (.one (.mp no)),[(no,some (G,.map k v .nil))],[],nx,no+1⟩
 |_,_=>none
theorem zeC (h:Rel tab Γ ρ tm w C kn Wr w0){t:TypeId}{rs:Option Operand}{r:Res}(hr:anMakeMap tab G nx no t rs=some r)(hf:∀o,no<=o->o<r.no->¬kn.o o){ds:List Deferred}
 {dst:Option Tmp} {ty:TypeId} {pos:String} {aft:Array Edge} {gd:Option (Nat × Bool)} :
 Yield P (execOp (Act.eval ⟨tm,ds⟩) ⟨dst,.makeMap t rs,ty,pos,aft,gd⟩) w fun v w'=>Post tab Γ ρ tm C kn Wr w0 nx no r v w':=by
 unfold anMakeMap at hr
 split at hr
 case h_2=>cases hr
 rename_i kt vt k v hm
 cases hr
 have hno:¬kn.o no:=hf no (Nat.le_refl _) (by simp)
 have hne:∀o',kn.o o'->o'≠no:=fun o' h1 e=>hno (e▸h1)
 unfold Yield
 simp only[execOp,Instr.makeMap,Option.map_none,Sem.run_bind,Sem.run_pure,Result.andThen_ok,run_newObj]
 refine⟨_,_,rfl,?_⟩
 have hg:=h.grows (Grows.push w (.map #[] 0))
 have hrel:Rel tab (Γ.setOb no (G,.map k v .nil)) ρ tm (w.alloc (.map #[] 0)) (C.set no (some ⟨w.heap.size,0,none⟩) 0 0 (Blk w.heap.size)) (kn.addO no) Wr w0:=by
  refine hg.addOb hno trivial (fun _=>?_) (fun _ _ o' g' ob' ho' hg' hv'=>?_) (fun _ _ o' g' ob' ho' hg' hv'=>?_) (fun _ _ b x hf=>?_)
  ·exact⟨w.heap.size,#[],0,[],Ctx.set_self.1,Ctx.set_self.2.2.2,zgb w _,rfl,⟨by simp,by simp⟩,trivial⟩
  · rintro b x rfl hf
    exact absurd (h.old ho' hg' hv' hf) (by omega)
  · rintro b x hf rfl
    exact absurd (h.old ho' hg' (by cases ob'<;>simp_all[Obj.owned,Obj.isView]) hf) (by omega)
  · cases hf
    exact .inr h.frm.size
 exact⟨_,_,hrel,⟨⟨.inr rfl,w.heap.size,Ctx.set_self.1,rfl⟩,fun cs=>by simp⟩,Ext.set hno (Kn.le_addO _ _),
  fun o ho=>ho.imp id fun e=>by simp only at e ⊢;omega,fun x hx=>.inl hx⟩
def mapOf (Γ:Gam)(G:Grd)(m:Operand):Option (Nat × Grd × CK × CK × Exp):=match opd Γ G m with
 | some (.s (.one (.mp o))) => match Γ.obj o with
   |some (g,.map k v d)=>if impl G g then some (o,g,k,v,d) else none
   |_=>none
 |_=>none
def keyOf (Γ:Gam)(G:Grd)(x:Operand):Option (CK × Exp):=match opd Γ G x with
 |some (.s (.one l))=>leafCk l
 |_=>none
theorem zc2 (h:Rel tab Γ ρ tm w C kn Wr w0)(hG:holdsG ρ G){x:Operand}{k:CK}{e:Exp}(hx:keyOf Γ G x=some (k,e)){ds:List Deferred}:Scal k (Act.eval ⟨tm,ds⟩ x) (den ρ e):=by
 unfold keyOf at hx
 split at hx
 · rename_i l hl
   exact zhg hx (zab h hG hl (ds:=ds)).1
 ·cases hx
theorem zeK (h:Rel tab Γ ρ tm w C kn Wr w0)(hG:holdsG ρ G){x:Operand}{o:Nat}{g:Grd}{k v:CK}{d:Exp}(hx:mapOf Γ G x=some (o,g,k,v,d)){ds:List Deferred} :
 ∃r es cl ents,Act.eval ⟨tm,ds⟩ x = .map (some r)/\Γ.obj o=some (g,.map k v d)/\holdsG ρ g/\C.A o=some ⟨r,0,none⟩/\C.F o=Blk r/\w.heap[r]? = some (.map es cl)/\den ρ d = .list ents/\(Born es.toList cl/\MapRel k v es.toList ents):=by
 unfold mapOf at hx
 split at hx
 case h_2=>cases hx
 rename_i o' ho
 split at hx
 case h_2=>cases hx
 rename_i g' k' v' d' hob
 split at hx
 case isFalse=>cases hx
 rename_i hi
 cases hx
 have hg:=zax hi hG
 obtain⟨⟨_,r,hA,hv⟩,_⟩:=zab h hG ho (ds:=ds)
 obtain⟨r',es,cl,ents,hA',hF,hr,hd,hm⟩:=(h.obs _ _ _ hob).2.2 hg
 rw[hA]at hA';cases hA'
 exact⟨r,es,cl,ents,hv,hob,hg,hA,hF,hr,hd,hm⟩
theorem zgT (hT:TabOk P tab){t:TypeId}{ti:TI}{k:CK}(h:tab.get t=some ti)(hk:tdCk ti.td=some k):∃z,(zeroValue t).run P w = .ok z w/\Scal k z (den ρ (ckZero k)):=by
 obtain⟨z,h1,h2,h3⟩:=zbf (w:=w) hT h
 refine⟨z,h1,?_⟩
 have hc:=(hT t ti h).cks
 obtain⟨d,u1,u2,u3⟩:=zbW hT h
 have hck:ti.cks = [k]/\ti.agg=false:=by
  unfold cksOf at hc
  cases hd:ti.td<;>rw[hd]at hc hk u2<;>simp[tdCk]at hk<;>subst hk<;>cases d<;>simp[tdChk]at u2<;>exact⟨by simpa using hc,by rw[<- u3];rfl⟩
 rw[hck.1]at h2
 have hna:∀cs,z ≠ .agg cs:=fun cs e=>by rw[e,hck.2]at h3;cases h3
 have hz:z.cells = #[z]:=by cases z<;>first|rfl|exact absurd rfl (hna _)
 rw[hz]at h2
 simp only[zerosAre,Bool.and_true]at h2
 cases hd:ti.td<;>rw[hd]at hk<;>simp[tdCk]at hk<;>subst hk
 · cases z<;>simp[zeroIs]at h2
   obtain⟨rfl,rfl⟩:=h2
   exact⟨0,rfl,rfl⟩
 · cases z<;>simp[zeroIs]at h2
   subst h2
   exact⟨false,rfl,rfl⟩
 · cases z with
   | string s =>
     have hs:s.data.size=0:=by simpa only[zeroIs,beq_iff_eq]using h2
     have hd:s.data = #[]:=Array.eq_empty_of_size_eq_zero hs
     refine⟨s,rfl,?_⟩
     cases s with
     |mk d=>simp only at hd;subst hd;rfl
   |_=>simp[zeroIs]at h2
theorem zft {kt:TypeId}{d:TypeDesc}{k:CK}{u:Value}{a:T}(hu:P.underlying kt=some d)(hd:(∃q,k = .int q/\d = .int q)\/(k = .bool/\d = .bool)\/(k = .str/\d = .string))(hs:Scal k u a)(e:Bool)(n:Nat) :
 (Instr.checkKey e (n+1) kt u).run P w = .ok () w:=by
 unfold Instr.checkKey
 simp only[Sem.run_bind,run_underlying hu,Result.andThen]
 rcases hd with⟨q,rfl,rfl⟩|⟨rfl,rfl⟩|⟨rfl,rfl⟩
 ·obtain⟨n,rfl,_⟩:=hs;rfl
 ·obtain⟨n,rfl,_⟩:=hs;rfl
 ·obtain⟨n,rfl,_⟩:=hs;rfl
def anLookup (tab:Tab)(Γ:Gam)(G:Grd)(nx no:Nat)(t:TypeId)(m x:Operand)(ok:Bool):Option Res :=
 match mapOf Γ G m,keyOf Γ G x,mapTy tab t with
 | some (_, _, k, v, d), some (k1, e), some (_, _, k2, v2) => if k = k1 && k = k2 && v = v2 then
  match ckLeaf v (.tri .mget d e (ckZero v)) with
  |some l=>some ⟨if ok then .tup [.one l,.one (.bool (.bin .mhas d e))] else .s (.one l),[],[],nx,no⟩
  |none=>none
   else none
 |_,_,_=>none
theorem zfe (hT:TabOk P tab)(h:Rel tab Γ ρ tm w C kn Wr w0)(hG:holdsG ρ G){t:TypeId}{m x:Operand}{ok:Bool}{r:Res}(hr:anLookup tab Γ G nx no t m x ok=some r){ds:List Deferred}
 {dst:Option Tmp} {ty:TypeId} {pos:String} {aft:Array Edge} {gd:Option (Nat × Bool)} :
 Yield P (execOp (Act.eval ⟨tm,ds⟩) ⟨dst,.lookup t m x ok,ty,pos,aft,gd⟩) w fun v w'=>Post tab Γ ρ tm C kn Wr w0 nx no r v w':=by
 unfold anLookup at hr
 split at hr
 case h_2=>cases hr
 rename_i o g k v d k1 e kt vt k2 v2 hm hx ht
 split at hr
 case isFalse=>cases hr
 rename_i hc
 simp only[Bool.and_eq_true,decide_eq_true_eq]at hc
 obtain⟨⟨rfl,rfl⟩,rfl⟩:=hc
 split at hr
 case h_2=>cases hr
 rename_i l hl
 cases hr
 obtain⟨b,es,cl,ents,e1,e2,e3,e4,e5,e6,e7,eB,e8⟩:=zeK h hG hm (ds:=ds)
 have hk:=zc2 h hG hx (ds:=ds)
 obtain⟨hu,ki,vi,ti1,ti2,c1,c2⟩:=zf0 hT ht
 obtain⟨dk,u1,u2⟩:=ziY hT ti1 c1
 obtain⟨z,z1,z2⟩:=zgT (w:=w) (ρ:=ρ) hT ti2 c2
 have hfk:=fun {A:Option (Nat × Value)} (hh:Instr.findNow dk (Act.eval ⟨tm,ds⟩ x) es.toList 0=some A)=>MapKept.run_findKey (P:=P) (w:=w) u1 hh
 have hchk:=zft (P:=P) (w:=w) u1 u2 hk es.isEmpty 9999
 unfold Yield
 simp only[execOp,Instr.lookup,e1,Sem.run_bind,run_underlying hu,Sem.run_pure,Result.andThen_ok,MapKept.run_getObj_map e6,hchk]
 rcases find_rel (v:=v) u2 hk 0 e8 with⟨g1,g2⟩|⟨j,en,y,g1,g2,g3,g4,g5⟩
 · have hval:den ρ (.tri .mget d e (ckZero v))=den ρ (ckZero v):=by simp only[den,Tr.den,e7,T.mget,g2,Option.getD_none]
   have hhas:den ρ (.bin .mhas d e) = .bool false:=by simp only[den,B.den,e7,T.mhas,g2];rfl
   obtain⟨r1,r2⟩:=zfx (tab:=tab) (C:=C) (kk:=kn.o) hl (by rw[hval];exact z2)
   simp only[hfk g1,Result.andThen_ok,Sem.run_bind,z1,Sem.run_pure]
   refine⟨_,_,rfl,Post.pure h rfl ?_⟩
   cases ok with
   |false=>exact⟨r1,r2⟩
   | true =>
     refine⟨_,rfl,rfl,fun i q hq=>?_⟩
     match i with
     |0=>cases hq;exact⟨_,rfl,r1,r2⟩
     |1=>cases hq;exact⟨_,rfl,⟨false,hhas,rfl⟩,fun cs=>by simp⟩
     |i+2=>cases hq
 · have hval:den ρ (.tri .mget d e (ckZero v))=y:=by simp only[den,Tr.den,e7,T.mget,g4,Option.getD_some]
   have hhas:den ρ (.bin .mhas d e) = .bool true:=by simp only[den,B.den,e7,T.mhas,g4];rfl
   obtain⟨r1,r2⟩:=zfx (tab:=tab) (C:=C) (kk:=kn.o) hl (by rw[hval];exact g5)
   simp only[hfk g1,Result.andThen_ok,Sem.run_bind,Sem.run_pure]
   refine⟨_,_,rfl,Post.pure h rfl ?_⟩
   cases ok with
   |false=>exact⟨r1,r2⟩
   | true =>
     refine⟨_,rfl,rfl,fun i q hq=>?_⟩
     match i with
     |0=>cases hq;exact⟨_,rfl,r1,r2⟩
     |1=>cases hq;exact⟨_,rfl,⟨true,hhas,rfl⟩,fun cs=>by simp⟩
     |i+2=>cases hq
def anMapUpdate(tab:Tab)(Γ:Gam)(G:Grd)(nx no:Nat)(t:TypeId)(m x y:Operand):Option Res :=
 match mapOf Γ G m,keyOf Γ G x,keyOf Γ G y,mapTy tab t with
 | some (o, [], k, v, d), some (k1, e), some (v1, f), some (_, _, k2, v2) => if G.isEmpty && k = k1 && k = k2 && v = v1 && v = v2 then
  some ⟨.s (.one .dead),[(o,some ([],.map k v (.var nx)))],[([],.set nx (.tri .mset d e f))],nx+1,no⟩
   else none
 |_,_,_,_=>none
theorem zfZ {k:CK}{u:Value}{a:T}(h:Scal k u a)(n:Nat):Instr.sameBits (n+1) u u=true:=by
 cases k<;>simp only[Scal]at h
 ·obtain⟨m,rfl,_⟩:=h;simp[Instr.sameBits]
 ·obtain⟨m,rfl,_⟩:=h;simp[Instr.sameBits]
 ·obtain⟨m,rfl,_⟩:=h;exact (zk8 m m).2 rfl
theorem zj5 {es:Array MapEntry}{cl:Nat}(h:Born es.toList cl)(a b:Value):Born (es.push { key:=a,val:=b,born:=cl }).toList (cl+1):=by
 obtain⟨h1,h2⟩:=h
 refine⟨fun x hx=>?_,?_⟩
 · rw[Array.toList_push,List.mem_append]at hx
   rcases hx with hx|hx
   ·exact Nat.lt_succ_of_lt (h1 x hx)
   ·rw[List.mem_singleton]at hx;subst hx;exact Nat.lt_succ_self _
 · rw[Array.toList_push,List.map_append,List.nodup_append]
   refine⟨h2,by simp,fun a ha b hb=>?_⟩
   simp only[List.map_cons,List.map_nil,List.mem_singleton]at hb
   subst hb
   obtain⟨x,hx,rfl⟩:=List.mem_map.1 ha
   exact Nat.ne_of_lt (h1 x hx)
theorem zhk {es:Array MapEntry}{cl:Nat}(h:Born es.toList cl)(i:Nat)(a b:Value):Born (es.modify i fun e=>{ e with key:=a,val:=b }).toList cl:=by
 obtain⟨h1,h2⟩:=h
 have hm:(es.modify i fun e=>{ e with key:=a,val:=b }).toList.map (·.born)=es.toList.map (·.born):=by
  apply List.ext_getElem?
  intro j
  simp only[Array.toList_modify,List.getElem?_map,List.getElem?_modify]
  split
  ·cases es.toList[j]?<;>rfl
  ·cases es.toList[j]?<;>rfl
 refine⟨fun x hx=>?_,by rw[hm];exact h2⟩
 have:x.born∈es.toList.map (·.born):=by rw[<- hm];exact List.mem_map_of_mem hx
 obtain⟨y,hy,e⟩:=List.mem_map.1 this
 rw[<- e];exact h1 y hy
theorem ziB {r:Nat}{o o':Go.Obj}(hb:w.heap[r]? = some o):Turned (Blk r) w { w with heap:=w.heap.setIfInBounds r o' }:=by
 have hs:=(MapKept.heap_set (o':=o') hb).2
 exact⟨by simp,fun b _ hn=>hs b fun e=>hn 0 e,fun b x _ hn=>za8 (hs b fun e=>hn e),rfl,rfl,rfl⟩
theorem zbB (hT:TabOk P tab)(h:Rel tab Γ ρ tm w C kn Wr w0){t:TypeId}(hG:holdsG ρ G){m x y:Operand}{r:Res}(hr:anMapUpdate tab Γ G nx no t m x y=some r)(hS:HoldsS I ρ r.sis){ds:List Deferred}
 {dst:Option Tmp} {op:Op} {ty:TypeId} {pos:String} {aft:Array Edge} {gd:Option (Nat × Bool)} (hop:op = .mapUpdate t m x y\/op = .insert t m x y) :
 Done P ⟨dst,op,ty,pos,aft,gd⟩ ⟨tm,ds⟩ w fun v w'=>Post tab Γ ρ tm C kn Wr w0 nx no r v w':=by
 unfold anMapUpdate at hr
 split at hr
 case h_2=>cases hr
 rename_i o k v d k1 e v1 f kt vt k2 v2 hm hx hy ht
 split at hr
 case isFalse=>cases hr
 rename_i hc
 simp only[Bool.and_eq_true,decide_eq_true_eq]at hc
 obtain⟨⟨⟨⟨_,rfl⟩,rfl⟩,rfl⟩,rfl⟩:=hc
 cases hr
 obtain⟨b,es,cl,ents,e1,e2,e3,e4,e5,e6,e7,eB,e8⟩:=zeK h hG hm (ds:=ds)
 have hk:=zc2 h hG hx (ds:=ds)
 have hv:=zc2 h hG hy (ds:=ds)
 obtain⟨hu,ki,vi,ti1,ti2,c1,c2⟩:=zf0 hT ht
 obtain⟨dk,u1,u2⟩:=ziY hT ti1 c1
 have hset:ρ nx=den ρ (.tri .mset d e f):=hS ([],.set nx (.tri .mset d e f)) (by simp) trivial
 have hset':den ρ (.var nx) = .list (T.mput (den ρ e) (den ρ f) ents):=by
  show ρ nx=_
  rw[hset];simp only[den,Tr.den,e7,T.mset]
 have hfk:=fun {A:Option (Nat × Value)} (hh:Instr.findNow dk (Act.eval ⟨tm,ds⟩ x) es.toList 0=some A)=>MapKept.run_findKey (P:=P) (w:=w) u1 hh
 have hchk:=zft (P:=P) (w:=w) u1 u2 hk false 9999
 have fin:∀es' cl',Born es'.toList cl'->MapRel k v es'.toList (T.mput (den ρ e) (den ρ f) ents)->(Instr.mapUpdate t (.map (some b)) (Act.eval ⟨tm,ds⟩ x) (Act.eval ⟨tm,ds⟩ y)).run P w = .ok () { w with heap:=w.heap.setIfInBounds b (.map es' cl') } ->
  Done P ⟨dst,op,ty,pos,aft,gd⟩ ⟨tm,ds⟩ w fun v' w'=>Post tab Γ ρ tm C kn Wr w0 nx no ⟨.s (.one .dead),[(o,some ([],.map k v (.var nx)))],[([],.set nx (.tri .mset d e f))],nx+1,no⟩ v' w':=by
  intro es' cl' hborn hrel hrun
  have hturn:Turned (C.F o) w { w with heap:=w.heap.setIfInBounds b (.map es' cl') }:=by rw[e5];exact ziB e6
  have hR:=h.upd (ob':=.map k v (.var nx)) (F':=C.F o) e2 trivial rfl hturn (Kn.le.refl kn) trivial (fun et x e=>by cases e) ?_
   (fun o' g' ob'' hne ho' hg' hv'=>h.dis o o' [] g' _ ob'' e2 ho' trivial hg' (Ne.symm hne) rfl hv') (fun b x hf=>h.own o [] _ e2 trivial rfl b x hf)
  · refine Done.skip ?_ ⟨_,kn,hR,⟨trivial,fun cs=>by simp[undef]⟩,Ext.upd (Kn.le.refl _),fun _=>.inl,fun _=>.inl⟩
    rcases hop with rfl|rfl<;>simp only[execOp,e1,Sem.run_bind,hrun,Result.andThen_ok,Sem.run_pure]
  ·exact⟨b,es',cl',_,by rw[Ctx.set_self.1];exact e4,by rw[Ctx.set_self.2.2.2];exact e5,(MapKept.heap_set e6).1,hset',hborn,hrel⟩
 rcases find_rel (v:=v) u2 hk 0 e8 with⟨g1,g2⟩|⟨j,en,q,g1,g2,g3,g4,g5⟩
 · refine fin (es.push { key:=Act.eval ⟨tm,ds⟩ x,val:=Act.eval ⟨tm,ds⟩ y,born:=cl }) (cl+1) (zj5 eB _ _) (by rw[Array.toList_push];exact zis u2 hk hv 0 e8 g1) ?_
   simp only[Instr.mapUpdate,Sem.run_bind,run_underlying hu,Sem.run_pure,Result.andThen_ok,MapKept.run_getObj_map e6,hchk,hfk g1,MapKept.run_setObj_map _ e6]
 · rw[Nat.zero_add]at g1
   refine fin (es.modify j fun e=>{ e with key:=Act.eval ⟨tm,ds⟩ x,val:=Act.eval ⟨tm,ds⟩ y }) cl (zhk eB j _ _) (by rw[Array.toList_modify];exact zig u2 hk hv 0 j _ e8 (by rw[Nat.zero_add];exact g1)) ?_
   have hes:es[j]? = some en:=by rw[<- Array.getElem?_toList];exact g2
   have hbits:=zfZ hk 9999
   simp only[Instr.mapUpdate,Sem.run_bind,run_underlying hu,Sem.run_pure,Result.andThen_ok,MapKept.run_getObj_map e6,hchk,hfk g1,hes,Option.map_some,Option.getD_some,g3,Instr.keyThatStays,hbits,if_true,MapKept.run_setObj_map _ e6]
def anConvB (tab:Tab)(Γ:Gam)(G:Grd)(nx no:Nat)(src dst:TypeId)(x:Operand):Option Res :=
 match opd Γ G x,tab.get src,tab.get dst with
 | some (.s (.one l)), some si, some ti => match si.td, ti.td with
   | .slice e, .str => match tab.get e with
     | some ei => match ei.td, l with
       | .int .u8, .sl o et off len => match rowOf Γ G o with
         |some (_,et2,d,_)=>if Nat.beq et e&&Nat.beq et2 e then some ⟨.s (.one (.str (.var nx))),[],[(G,.set nx (.un .unbytes (extE d off len)))],nx+1,no⟩ else none
         |none=>none
       |.int .u8,.nil=>some ⟨.s (.one (.str (.str []))),[],[],nx,no⟩
       |_,_=>none
     |none=>none
   |_,_=>none
 |_,_,_=>none
theorem ziT:∀(l:List Int) (s:ByteArray),l.foldl (fun r n=>r.push (UInt8.ofNat n.toNat)) s = ⟨s.data++(l.map fun n=>UInt8.ofNat n.toNat).toArray⟩
 |[],s=>by simp
 | n :: l, s => by
   rw[List.foldl_cons,ziT l]
   simp[ByteArray.push]
theorem zfM (hT : TabOk P tab) (h : Rel tab Γ ρ tm w C kn Wr w0) (hG : holdsG ρ G) {src ds' : TypeId} {x : Operand} {r : Res} (hr : anConvB tab Γ G nx no src ds' x = some r) (hS : HoldsS I ρ r.sis) {ds : List Deferred}
 {dst:Option Tmp} {ty:TypeId} {pos:String} {aft:Array Edge} {gd:Option (Nat × Bool)} :
 Yield P (execOp (Act.eval ⟨tm,ds⟩) ⟨dst,.convert src ds' x,ty,pos,aft,gd⟩) w fun v w'=>Post tab Γ ρ tm C kn Wr w0 nx no r v w':=by
 unfold anConvB at hr
 split at hr
 case h_2=>cases hr
 rename_i l si ti hx hsi hti
 split at hr
 case h_2=>cases hr
 rename_i e hsd htd
 split at hr
 case h_2=>cases hr
 rename_i ei hei
 have us:=zaB hT hsi hsd
 have ut:=zfN hT hti htd
 have key:∀q:TD,ei.td=q->q = .int .u8->P.underlying e=some (.int .u8)/\ei.cks = [.int .u8]/\ei.size=1:=by
  rintro q h1 rfl
  obtain⟨d,u1,u2,_⟩:=zbW hT hei
  rw[h1]at u2
  cases d<;>simp[tdChk]at u2
  have hc:=(hT e ei hei).cks
  unfold cksOf at hc
  rw[h1]at hc
  have hc:ei.cks = [.int .u8]:=by simpa using hc
  exact⟨by rw[u1,<- u2],hc,by rw[(hT e ei hei).len,hc];rfl⟩
 have hv:=zab h hG hx (ds:=ds)
 split at hr
 · rename_i o et off len htd8
   split at hr
   case h_2=>cases hr
   rename_i dp et2 d vw hrow
   split at hr
   case isFalse=>cases hr
   rename_i hc
   simp only[Bool.and_eq_true]at hc
   have c1:=Nat.eq_of_beq_eq_true hc.1
   have c2:=Nat.eq_of_beq_eq_true hc.2
   subst c1;subst c2
   cases hr
   obtain⟨k1,k2,k3⟩:=key _ htd8 rfl
   obtain⟨rows,F',root,gr,obr,r1,r2,_⟩:=zaF h hG hrow
   obtain⟨m,n,a,c,F2,e1,e2,e3,e4,e5,e6,e7⟩:=hv.1.part hei r2
   have hset:ρ nx=den ρ (.un .unbytes (extE d off len)):=hS (G,.set nx (.un .unbytes (extE d off len))) (by simp) hG
   simp only[den,U.den,zcq r1 e1 e2 e4]at hset
   obtain⟨rs,hrs⟩:∃rs,(rows.take (m+n)).drop m=rs:=⟨_,rfl⟩
   rw[hrs]at e6 hset
   unfold Yield
   simp only[execOp,e3,Sem.run_bind,run_convert_bytes_string w src ds' et2 a n c us k1 ut]
   -- the cells are bytes
   have hcells : ∃ ns : List Int, rs = ns.map T.int /\ ∀ ad, a = some ad -> (loadCells ad n).run P w = .ok (ns.map (Value.int .u8)).toArray w := by
    cases e6 with
    | @sl _ ti' _ _ _ _ b off' vs Fs F hti' hsz hn hc' ha hwf hcell hrel hown hdis hdr hF =>
      rw[hei]at hti';cases hti'
      have hr1:∀i,i<n->∃z:Int,vs i 0 = .int .u8 z/\rs.getD i .hole = .int z:=by
       intro i hi
       have:=hrel i 0 (.int .u8) hi (by rw[k2];rfl)
       have e:cellT ei.size rs i 0=rs.getD i .hole:=by unfold cellT;rw[if_pos k3]
       rw[e]at this
       generalize vs i 0=u at this
       generalize rs.getD i .hole=q at this
       generalize Fs i 0=F3 at this
       cases this
       exact⟨_,rfl,rfl⟩
      refine⟨(List.range n).map fun i=>(rs.getD i .hole).toInt,?_,fun ad had=>?_⟩
      · apply List.ext_getElem?
        intro i
        by_cases hi:i<n
        · obtain⟨z,_,hz⟩:=hr1 i hi
          rw[List.getElem?_map,List.getElem?_map,List.getElem?_range hi]
          simp only[Option.map_some,hz,T.toInt]
          rw[<- hz,List.getD_eq_getElem?_getD,List.getElem?_eq_getElem (by omega)];rfl
        ·rw[List.getElem?_eq_none (by omega),List.getElem?_eq_none (by simp;omega)]
      · subst had
        have:=run_loadCells (P:=P) w ad n (fun j=>vs j 0) fun j hj=>by
         rcases ha with ha|ha
         · cases ha
           rw[zb4]
           have:=hcell j 0 hj (by rw[k3];omega)
           rw[k3]at this
           have h2:cellAt w b (off'+j)=some (vs j 0):=by simpa using this
           exact h2
         ·omega
        rw[this]
        congr 2
        rw[List.map_map]
        apply List.map_congr_left
        intro j hj
        obtain⟨z,hz1,hz2⟩:=hr1 j (List.mem_range.1 hj)
        simp only[Function.comp,hz1,hz2,T.toInt]
   obtain⟨ns,n1,n2⟩:=hcells
   have hout:ρ nx = .str ⟨(ns.map fun z=>UInt8.ofNat z.toNat).toArray⟩:=by
    rw[hset,n1]
    simp only[T.unbytes,List.map_map]
    rfl
   cases a with
   | none =>
     have h0:n=0:=by
      cases e6 with
      | @sl _ ti' _ _ _ _ b off' vs Fs F hti' hsz hn hc' ha=>rcases ha with ha|ha;cases ha;omega
     have hns:ns = []:=by
      have:rs.length=n:=by rw[<- hrs,List.length_drop,List.length_take];omega
      rw[n1,List.length_map,h0]at this
      exact List.length_eq_zero_iff.1 this
     refine⟨.string .empty,w,by simp only[Conv.bytesToString,Sem.run_pure,Result.andThen_ok],Post.pure h rfl (zgE ?_)⟩
     show ρ nx=_
     rw[hout,hns];rfl
   | some ad =>
     refine⟨_,w,by rw[run_bytesToString w ad n c ns (n2 ad rfl)];rfl,Post.pure h rfl (zgE ?_)⟩
     show ρ nx=_
     rw[hout,ziT]
     have:ByteArray.empty.data = #[]:=rfl
     rw[this,Array.empty_append]
 · rename_i htd8
   cases hr
   obtain⟨k1,k2,k3⟩:=key _ htd8 rfl
   have hv1:Act.eval ⟨tm,ds⟩ x = .slice none 0 0:=hv.1
   unfold Yield
   simp only[execOp,hv1,Sem.run_bind,run_convert_bytes_string w src ds' e none 0 0 us k1 ut]
   refine⟨.string .empty,w,by simp only[Conv.bytesToString,Sem.run_pure,Result.andThen_ok],Post.pure h rfl (zgE ?_)⟩
   rfl
 ·cases hr
end
end Gp
