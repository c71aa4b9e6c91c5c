import Derived.Test.YthhmbcblhgnelaaGreatDoorGpArr
import Derived.Laws.StructEq
set_option linter.unusedVariables false
set_option linter.unusedSimpArgs false
namespace Gp
open Go
section
variable {tab:Tab}{Γ:Gam}{ρ:Env}{tm:Array Value}{w w':World}{C:Ctx}{kn:Kn}{Wr:CS}{w0:World}{P:Program}{I:Nat->List T->List T->Prop}{G:Grd}{nx no:Nat}
def leafEq:Leaf->Leaf->Option Exp
 |.int k a,.int k' b=>if k=k' then some (.bin (.cmp .eql) a b) else none
 |.bool a,.bool b=>some (.bin (.bcmp .eql) a b)
 |.str a,.str b=>some (.bin (.scmp .eql) a b)
 |_,_=>none
def leavesEq:List Leaf->List Leaf->Option (List Exp)
 |[],[]=>some []
 | a :: l, b :: m => match leafEq a b with
   | some e => match leavesEq l m with
     |some es=>some (e::es)
     |none=>none
   |none=>none
 |_,_=>none
def conjE:List Exp->Exp
 |[]=>.bool true
 |[e]=>e
 |e::es=>.bin .and e (conjE es)
def leafFits:CK->Leaf->Bool
 |.int k,.int k' _=>decide (k=k')
 |.bool,.bool _=>true
 |.str,.str _=>true
 |_,_=>false
def leavesFit:List CK->List Leaf->Bool
 |[],[]=>true
 |c::cs,l::ls=>leafFits c l&&leavesFit cs ls
 |_,_=>false
def tileE (tab:Tab):Nat->List (Nat × TypeId)->Option Nat
 |n,[]=>some n
 | n, (off, t) :: fs => match tab.get t with
   |some ti=>if Nat.beq off n then tileE tab (n+ti.size) fs else none
   |none=>none
def eqT (tab:Tab):Nat->TypeId->Bool
 |0,_=>false
 | n + 1, t => match tab.get t with
   | some ti => match ti.td with
     |.int _|.bool|.str=>!ti.agg&&Nat.beq ti.size 1
     |.struct fs=>ti.eqs&&ti.agg&&(fs.all (fun f=>eqT tab n f.2)&&tileE tab 0 fs==some ti.size)
     |_=>false
   |none=>false
def vEq:Value->Value->Bool
 |.int _ a,.int _ b=>a==b
 |.bool a,.bool b=>a==b
 |.string a,.string b=>a.toList==b.toList
 |_,_=>false
def allV:List Value->List Value->Bool
 |x::xs,y::ys=>vEq x y&&allV xs ys
 |_,_=>true
def PairOf:CK->Value->Value->Prop
 |.int k,u,v=>∃a b,u = .int k a/\v = .int k b
 |.bool,u,v=>∃a b,u = .bool a/\v = .bool b
 |.str,u,v=>∃a b,u = .string a/\v = .string b
 |_,_,_=>False
def PairsOf:List CK->List Value->List Value->Prop
 |[],[],[]=>True
 |c::cs,x::xs,y::ys=>PairOf c x y/\PairsOf cs xs ys
 |_,_,_=>False
theorem PairsOf.len:∀{cs:List CK} {xs ys:List Value},PairsOf cs xs ys->xs.length=cs.length/\ys.length=cs.length
 |[],[],[],_=>⟨rfl,rfl⟩
 |c::cs,x::xs,y::ys,h=>by have:=h.2.len;simp[this.1,this.2]
 |[],_::_,_,h=>h.elim
 |[],[],_::_,h=>h.elim
 |_::_,[],_,h=>h.elim
 |_::_,_::_,[],h=>h.elim
theorem PairsOf.drop:∀(n:Nat) {cs:List CK} {xs ys:List Value},PairsOf cs xs ys->PairsOf (cs.drop n) (xs.drop n) (ys.drop n)
 |0,_,_,_,h=>h
 |n+1,[],[],[],_=>trivial
 |n+1,c::cs,x::xs,y::ys,h=>by simpa using h.2.drop n
 |_,[],_::_,_,h=>h.elim
 |_,[],[],_::_,h=>h.elim
 |_,_::_,[],_,h=>h.elim
 |_,_::_,_::_,[],h=>h.elim
theorem PairsOf.take:∀(n:Nat) {cs:List CK} {xs ys:List Value},PairsOf cs xs ys->PairsOf (cs.take n) (xs.take n) (ys.take n)
 |0,_,_,_,h=>by simp[PairsOf]
 |n+1,[],[],[],_=>trivial
 |n+1,c::cs,x::xs,y::ys,h=>by simpa using ⟨h.1,h.2.take n⟩
 |_,[],_::_,_,h=>h.elim
 |_,[],[],_::_,h=>h.elim
 |_,_::_,[],_,h=>h.elim
 |_,_::_,_::_,[],h=>h.elim
theorem zfw:∀(n:Nat) (xs ys:List Value),xs.length=ys.length->allV xs ys=(allV (xs.take n) (ys.take n)&&allV (xs.drop n) (ys.drop n))
 |0,xs,ys,_=>by simp[allV]
 |n+1,[],ys,h=>by simp[allV]
 |n+1,x::xs,[],h=>by simp at h
 | n + 1, x :: xs, y :: ys, h => by
   simp only[List.take_succ_cons,List.drop_succ_cons,allV]
   rw[zfw n xs ys (by simpa using h),Bool.and_assoc]
def valOf (agg:Bool)(xs:List Value):Value:=if agg then .agg xs.toArray else xs.headD default
theorem zdO (hT:TabOk P tab){t:TypeId}{ti:TI}(h:tab.get t=some ti)(xs:List Value)(off:Nat)(hsz:off+ti.size<=xs.length)(h0:ti.agg=false->ti.size=1) :
 (part t xs.toArray off).run P w = .ok (valOf ti.agg ((xs.drop off).take ti.size)) w:=by
 simp only[part,Sem.run_bind,zbC hT h,Result.andThen_ok,Sem.run_ite]
 cases hg:ti.agg with
 | true =>
   simp only[if_true,Sem.run_bind,zas hT h,Result.andThen_ok,Sem.run_pure,valOf]
   congr 2
   simp[List.extract_eq_take_drop]
 | false =>
   have:=h0 hg
   have hlt:off<xs.length:=by omega
   simp only[Bool.false_eq_true,if_false,List.getElem?_toArray,List.getElem?_eq_getElem hlt,Sem.run_pure,valOf]
   congr 1
   rw[this,List.drop_eq_getElem_cons hlt]
   rfl
theorem zgD (hT:TabOk P tab){n d:Nat}{xs ys:List Value}{cs:List CK}(hp:PairsOf cs xs ys)
 (ih:∀t ti (as bs:List Value),eqT tab n t=true->tab.get t=some ti->PairsOf ti.cks as bs->(Op.equalIn d t (valOf ti.agg as) (valOf ti.agg bs)).run P w = .ok (allV as bs) w) :
 ∀ (gs : List Field) (k : Nat), (gs.all fun f => f.name != "_") = true -> ((gs.map fun f => (f.offset, f.type)).all fun f => eqT tab n f.2) = true -> tileE tab k (gs.map fun f => (f.offset, f.type)) = some cs.length ->
   (∀f∈gs,∃tj,tab.get f.type=some tj/\(cs.drop f.offset).take tj.size=tj.cks/\f.offset+tj.size<=cs.length/\(tj.agg=false->tj.size=1)) ->
   (Op.eqFields d xs.toArray ys.toArray gs).run P w = .ok (allV (xs.drop k) (ys.drop k)) w
 | [], k, _, _, hk, _ => by
   simp only[List.map_nil,tileE,Option.some.injEq]at hk
   have:=hp.len
   simp only[Op.eqFields,Sem.run_pure]
   rw[List.drop_eq_nil_of_le (by omega),List.drop_eq_nil_of_le (by omega)]
   rfl
 | f :: gs, k, hn, he, hk, hf => by
   simp only[List.all_cons,Bool.and_eq_true,List.map_cons]at hn he
   obtain⟨tj,h1,h2,h3,h4⟩:=hf f (List.mem_cons_self ..)
   simp only[List.map_cons,tileE,h1]at hk
   split at hk
   case isFalse=>cases hk
   rename_i hoff
   have hoff:=Nat.eq_of_beq_eq_true hoff
   have hl:=hp.len
   have hne:f.name ≠ "_" := by simpa using hn.1
   have hsub:PairsOf tj.cks ((xs.drop f.offset).take tj.size) ((ys.drop f.offset).take tj.size):=by
    rw[<- h2];exact (hp.drop _).take _
   simp only[Op.eqFields,ne_eq,hne,not_false_eq_true,if_true,Sem.run_bind,zdO hT h1 xs f.offset (by omega) h4,zdO hT h1 ys f.offset (by omega) h4,Result.andThen_ok,
    ih f.type tj _ _ he.1 h1 hsub,Sem.run_ite,Sem.run_pure]
   have hrest:=zgD hT hp ih gs (k+tj.size) hn.2 he.2 hk (fun g hg=>hf g (List.mem_cons_of_mem _ hg))
   rw[zfw tj.size (xs.drop k) (ys.drop k) (by simp;omega),List.drop_drop,List.drop_drop,<- hoff]
   cases hb:allV ((xs.drop f.offset).take tj.size) ((ys.drop f.offset).take tj.size) with
   | true =>
     simp only[Bool.not_true,Bool.false_eq_true,if_false,Bool.true_and]
     rw[hoff];exact hrest
   |false=>simp only[Bool.not_false,if_true,Bool.false_and]
theorem zjB (hT : TabOk P tab) : ∀ (n d : Nat) (t : TypeId) (ti : TI) (xs ys : List Value), n <= d -> eqT tab n t = true -> tab.get t = some ti -> PairsOf ti.cks xs ys ->
 (Op.equalIn d t (valOf ti.agg xs) (valOf ti.agg ys)).run P w = .ok (allV xs ys) w
 |0,_,_,_,_,_,_,h,_,_=>by cases h
 |n+1,0,_,_,_,_,hd,_,_,_=>by omega
 | n + 1, d + 1, t, ti, xs, ys, hd, h, hti, hp => by
   simp only[eqT,hti]at h
   obtain⟨du,hu,hud,_⟩:=zbW hT hti
   have hck:=(hT t ti hti).cks
   have one:ti.agg=false->∀c,ti.cks = [c]->∃x y,xs = [x]/\ys = [y]/\valOf ti.agg xs=x/\valOf ti.agg ys=y/\PairOf c x y:=by
    intro ha c hc
    rw[hc]at hp
    match xs,ys,hp with
    |[x],[y],hp=>exact⟨x,y,rfl,rfl,by simp[valOf,ha],by simp[valOf,ha],hp.1⟩
    |x::x2::r,_::_,hp=>exact hp.2.elim
    |[x],y::y2::r,hp=>exact hp.2.elim
   split at h
   · rename_i k htd
     simp only[Bool.and_eq_true,Bool.not_eq_true']at h
     rw[cksOf,htd]at hck
     obtain⟨x,y,rfl,rfl,e1,e2,a,b,rfl,rfl⟩:=one h.1 _ (by simpa using hck)
     rw[e1,e2]
     rw[htd]at hud
     cases du<;>simp[tdChk]at hud
     subst hud
     rw[run_equalIn_int w d t k k a b hu]
     simp[allV,vEq]
   · rename_i htd
     simp only[Bool.and_eq_true,Bool.not_eq_true']at h
     rw[cksOf,htd]at hck
     obtain⟨x,y,rfl,rfl,e1,e2,a,b,rfl,rfl⟩:=one h.1 _ (by simpa using hck)
     rw[e1,e2]
     rw[htd]at hud
     cases du<;>simp[tdChk]at hud
     rw[run_equalIn_bool' w d t a b hu]
     simp[allV,vEq]
   · rename_i htd
     simp only[Bool.and_eq_true,Bool.not_eq_true']at h
     rw[cksOf,htd]at hck
     obtain⟨x,y,rfl,rfl,e1,e2,a,b,rfl,rfl⟩:=one h.1 _ (by simpa using hck)
     rw[e1,e2]
     rw[htd]at hud
     cases du<;>simp[tdChk]at hud
     rw[run_equalIn_string w d t a b hu]
     simp[allV,vEq]
   · rename_i fs htd
     simp only[Bool.and_eq_true,beq_iff_eq]at h
     obtain⟨⟨h1,h2⟩,h3,h4⟩:=h
     obtain⟨gs,hg,hs1,hs2⟩:=(hT t ti hti).eqs h1
     rw[hu]at hg;cases hg
     rw[htd]at hud
     simp only[tdChk,beq_iff_eq]at hud
     subst hud
     have hfo:P.fieldsOf t=gs:=by simp[Program.fieldsOf,hu]
     have hval:∀l:List Value,valOf ti.agg l = .agg l.toArray:=fun l=>by simp[valOf,h2]
     rw[hval,hval,run_equalIn_struct w d t _ _ (by rw[hfo];exact hu) hs1,hfo]
     have hlen:=(hT t ti hti).len
     rw[cksOf,htd]at hck
     simp only[List.all_eq_true]at hck
     have := zgD hT (n := n) (d := d) hp (fun t ti as bs a1 a2 a3 => zjB hT n d t ti as bs (by omega) a1 a2 a3) gs.toList 0 hs2 h3 (by rw [<- hlen]; exact h4) (fun f hf => by
      have hm:(f.offset,f.type)∈gs.toList.map fun f=>(f.offset,f.type):=List.mem_map.2 ⟨f,hf,rfl⟩
      have q:=hck _ hm
      simp only[]at q
      split at q
      · rename_i tj htj
        simp only[Bool.and_eq_true,beq_iff_eq,Bool.not_eq_true']at q
        refine⟨tj,htj,q.1.1,by rw[<- hlen];exact Nat.le_of_ble_eq_true q.1.2,fun ha=>?_⟩
        have e:=List.all_eq_true.1 h3 _ hm
        match n,e with
        | n + 1, e =>
          simp only[eqT,htj]at e
          split at e
          ·simp only[Bool.and_eq_true]at e;exact Nat.eq_of_beq_eq_true e.2
          ·simp only[Bool.and_eq_true]at e;exact Nat.eq_of_beq_eq_true e.2
          ·simp only[Bool.and_eq_true]at e;exact Nat.eq_of_beq_eq_true e.2
          ·simp only[Bool.and_eq_true]at e;rw[ha]at e;simp at e
          ·cases e
      ·cases q)
     simpa using this
   ·cases h
def anBinS (tab : Tab) (Γ : Gam) (G : Grd) (nx no : Nat) (o : BinOp) (xt : TypeId) (x y : Operand) : Option Res :=
 match opd Γ G x,opd Γ G y,tab.get xt with
 | some (.s (.agg as)), some (.s (.agg bs)), some ti =>
   if eqT tab 5 xt&&(ti.agg&&ti.eqs&&leavesFit ti.cks as) then match leavesEq as bs,o with
    |some es,.eql=>some ⟨.s (.one (.bool (conjE es))),[],[],nx,no⟩
    |some es,.neq=>some ⟨.s (.one (.bool (.un .not (conjE es)))),[],[],nx,no⟩
    |_,_=>none
   else none
 |_,_,_=>none
theorem zgN {k:Nat->Prop}{a b:Leaf}{e:Exp}{c:CK}(h:leafEq a b=some e)(hc:leafFits c a=true){u v:Value}(hu:LeafRel tab C k ρ a u)(hv:LeafRel tab C k ρ b v) :
 PairOf c u v/\den ρ e = .bool (vEq u v):=by
 unfold leafEq at h
 split at h
 · split at h
   · rename_i q x q' y hk
     cases h
     subst hk
     obtain⟨m,hm,rfl⟩:=hu
     obtain⟨n,hn,rfl⟩:=hv
     cases c<;>simp[leafFits]at hc
     subst hc
     exact⟨⟨m,n,rfl,rfl⟩,by simp[den,B.den,hm,hn,T.cmp,T.cmpI,vEq]⟩
   ·cases h
 · cases h
   obtain⟨m,hm,rfl⟩:=hu
   obtain⟨n,hn,rfl⟩:=hv
   cases c<;>simp[leafFits]at hc
   exact⟨⟨m,n,rfl,rfl⟩,by simp[den,B.den,hm,hn,T.bcmp,vEq]⟩
 · cases h
   obtain⟨m,hm,rfl⟩:=hu
   obtain⟨n,hn,rfl⟩:=hv
   cases c<;>simp[leafFits]at hc
   exact⟨⟨m,n,rfl,rfl⟩,by simp[den,B.den,hm,hn,T.scmp,T.scmpS,vEq]⟩
 ·cases h
theorem zin:∀{es:List Exp} {xs ys:List Value},(es.map (den ρ)=(xs.zip ys).map fun p=>T.bool (vEq p.1 p.2))->xs.length=ys.length->den ρ (conjE es) = .bool (allV xs ys)
 |[],[],[],_,_=>rfl
 |[e],[x],[y],h,_=>by simpa[conjE,allV]using h
 | e :: e2 :: es, x :: x2 :: xs, y :: y2 :: ys, h, hl => by
   simp only[List.map_cons,List.zip_cons_cons,List.cons.injEq]at h
   have ih:=zin (es:=e2::es) (xs:=x2::xs) (ys:=y2::ys) (by simp only[List.map_cons,List.zip_cons_cons,h.2.1,h.2.2]) (by simpa using hl)
   simp only[conjE,den,B.den,h.1]
   have ih2:den ρ (conjE (e2::es)) = .bool (allV (x2::xs) (y2::ys)):=ih
   rw[ih2]
   rfl
 |[],x::_,y::_,h,_=>by simp at h
 |_::_,[],_,h,_=>by simp at h
 |[_],_::_::_,_::_::_,h,_=>by simp at h
 |_::_::_,[_],[_],h,_=>by simp at h
 |_::_,_::_,[],h,hl=>by simp at hl
 |[],_::_,[],h,hl=>by simp at hl
 |[],[],_::_,h,hl=>by simp at hl
theorem zcv {k:Nat->Prop}:∀{as bs:List Leaf} {es:List Exp} {cs:List CK} {us vs:List Value},leavesEq as bs=some es->leavesFit cs as=true->us.length=as.length->vs.length=bs.length ->
 (∀(i:Nat) l,as[i]? = some l->∃u,us[i]? = some u/\LeafRel tab C k ρ l u)->(∀(i:Nat) l,bs[i]? = some l->∃u,vs[i]? = some u/\LeafRel tab C k ρ l u) ->
 PairsOf cs us vs/\es.map (den ρ)=(us.zip vs).map fun p=>T.bool (vEq p.1 p.2)
 | [], [], es, cs, us, vs, h, hc, hu, hv, _, _ => by
   cases h
   cases us<;>simp at hu
   cases vs<;>simp at hv
   cases cs<;>simp[leavesFit]at hc
   exact⟨trivial,rfl⟩
 | a :: as, b :: bs, es, cs, us, vs, h, hc, hu, hv, ru, rv => by
   simp only[leavesEq]at h
   split at h
   case h_2=>cases h
   rename_i e he
   split at h
   case h_2=>cases h
   rename_i es' hes
   cases h
   match us,vs,cs,hu,hv,hc with
   | u :: us, v :: vs, c :: cs, hu, hv, hc =>
     simp only[leavesFit,Bool.and_eq_true]at hc
     obtain⟨u',q1,q2⟩:=ru 0 a rfl
     obtain⟨v',q3,q4⟩:=rv 0 b rfl
     simp only[List.getElem?_cons_zero,Option.some.injEq]at q1 q3
     subst q1;subst q3
     obtain⟨p1,p2⟩:=zgN he hc.1 q2 q4
     obtain⟨p3,p4⟩:=zcv hes hc.2 (by simpa using hu) (by simpa using hv) (fun i l hl=>by simpa using ru (i+1) l (by simpa using hl)) (fun i l hl=>by simpa using rv (i+1) l (by simpa using hl))
     exact⟨⟨p1,p3⟩,by simp only[List.map_cons,List.zip_cons_cons,p2,p4]⟩
 |[],_::_,_,_,_,_,h,_,_,_,_,_=>by cases h
 |_::_,[],_,_,_,_,h,_,_,_,_,_=>by cases h
theorem zgO (hT:TabOk P tab)(h:Rel tab Γ ρ tm w C kn Wr w0)(hG:holdsG ρ G){o:BinOp}{xt yt:TypeId}{x y:Operand}{r:Res}(hr:anBinS tab Γ G nx no o xt x y=some r){ds:List Deferred}
 {dst:Option Tmp} {ty:TypeId} {pos:String} {aft:Array Edge} {gd:Option (Nat × Bool)} :
 Yield P (execOp (Act.eval ⟨tm,ds⟩) ⟨dst,.binOp o xt x y yt,ty,pos,aft,gd⟩) w fun v w'=>Post tab Γ ρ tm C kn Wr w0 nx no r v w':=by
 unfold anBinS at hr
 split at hr
 case h_2=>cases hr
 rename_i as bs ti hx hy hti
 split at hr
 case isFalse=>cases hr
 rename_i hc
 simp only[Bool.and_eq_true]at hc
 obtain⟨c1,⟨c2,c3⟩,c4⟩:=hc
 obtain⟨us,hus,hu1,hu2⟩:=zab h hG hx (ds:=ds)
 obtain⟨vs,hvs,hv1,hv2⟩:=zab h hG hy (ds:=ds)
 obtain⟨gs,hg,hs1,hs2⟩:=(hT xt ti hti).eqs c3
 have hgd:P.eqGuardType P.depth xt=false:=(hT xt ti hti).gd c3
 have main:∀es,leavesEq as bs=some es->(Op.equalIn 10000 xt (.agg us) (.agg vs)).run P w = .ok (allV us.toList vs.toList) w/\den ρ (conjE es) = .bool (allV us.toList vs.toList):=by
  intro es hes
  obtain⟨p1,p2⟩:=zcv (us:=us.toList) (vs:=vs.toList) hes c4 (by simpa using hu1) (by simpa using hv1) (fun i l hl=>by simpa using hu2 i l hl) (fun i l hl=>by simpa using hv2 i l hl)
  have hl:=p1.len
  refine⟨?_,zin p2 (by omega)⟩
  have:=zjB (w:=w) hT 5 10000 xt ti us.toList vs.toList (by decide) c1 hti p1
  simpa[valOf,c2]using this
 unfold Yield
 simp only[execOp,hus,hvs,Sem.run_bind,run_eqGuard_agg w o xt x y us vs hgd,Result.andThen_ok,Sem.run_pure]
 split at hr
 · rename_i es hes
   cases hr
   obtain⟨m1,m2⟩:=main es hes
   simp only[run_eql_struct,m1,Result.andThen_ok]
   exact⟨_,_,rfl,Post.pure h rfl (zc1 m2)⟩
 · rename_i es hes
   cases hr
   obtain⟨m1,m2⟩:=main es hes
   simp only[run_neq_struct,m1,Result.andThen_ok]
   exact⟨_,_,rfl,Post.pure h rfl (zc1 (by simp only[den,U.den,m2,T.not]))⟩
 ·cases hr
end
end Gp
