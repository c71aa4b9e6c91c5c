import Derived.Test.YthhmbcblhgnelaaGreatDoorGpReg4
import Derived.Still
set_option linter.unusedVariables false
set_option linter.unusedSimpArgs false
namespace Gp
open Go
def sameRes (R:Row)(no:Nat)(r:Option Res):Bool:=match r with
 |some r=>decide (r.sis=R.r.sis)&&Nat.beq r.no no
 |none=>false
def quietStep(tab:Tab)(ops:Array Oper)(Γ:Gam)(R:Row)(nx no:Nat)(o:Oper):Bool:=match guardOf ops Γ o with
 | some G => match o.op with
   |.move _=>true
   |.assign _=>true
   |.binOp p xt x y _=>sameRes R no (anBin tab Γ G nx no p xt x y)
   |.convert s d x=>(anConv tab Γ G nx no s d x).isSome
   |.indexAddr t x i=>sameRes R no (anIndexAddr tab Γ G nx no t x i)
   |.slice t x lo hi mx=>sameRes R no (anSlice tab Γ G nx no t x lo hi mx)
   |.load t x=>sameRes R no (anLoad tab Γ G nx no t x)
   |_=>false
 |none=>false
def quietSeq (tab:Tab)(ops:Array Oper):List Oper->List Row->Gam->Bool
 |[],_,_=>true
 |o::l,R::rs,Γ=>quietStep tab ops Γ R R.nx R.no o&&quietSeq tab ops l rs (Γ.afterR R)
 |_,_,_=>false
section
variable {tab:Tab}{Γ:Gam}{ρ ρ':Env}{tm:Array Value}{w w':World}{C C1 Cx:Ctx}{kn kn':Kn}{Wr:CS}{w0:World}{P:Program}{G:Grd}{nx no nb:Nat}{obs:Obs}{S:Sig}{sigs:List Sig}
theorem za4 {R:Row}{no:Nat}{r:Option Res}(h:sameRes R no r=true):∃r',r=some r'/\r'.sis=R.r.sis/\r'.no=no:=by
 unfold sameRes at h
 split at h
 · simp only[Bool.and_eq_true,decide_eq_true_eq]at h
   exact⟨_,rfl,h.1,Nat.eq_of_beq_eq_true h.2⟩
 ·cases h
theorem zeE {E:Nat->Prop}{C0:Ctx}{nt:Nat}{ops:Array Oper}{o:Oper}{a:Act}{ds:List Deferred}{R:Row}(hT:TabOk P tab)(h:St tab nt E C0 Γ ρ a w ds kn Wr w0)
 (hq:quietStep tab ops Γ R nx no o=true) (hS:HoldsS (CallOk P tab sigs) ρ R.r.sis) (hw:Region.wanted o (yielded ops a.tmps)=true) :
 ∃v,(execOp a.eval o).run P w = .ok (.value v) w:=by
 obtain⟨⟨C,h1,_⟩,h2,h3,h4⟩:=h
 unfold quietStep at hq
 split at hq
 case h_2=>cases hq
 rename_i G hg
 have hG:=(zbQ h1 hg (fun t ht=>by rw[h2];exact h3 t ht)).1 hw
 obtain⟨dst,op,ty,pos,aft,gd⟩:=o
 obtain⟨tm,ds'⟩:=a
 simp only at h1 hq ⊢
 split at hq
 ·exact⟨_,rfl⟩
 ·exact⟨_,rfl⟩
 · obtain⟨r',e1,e2,e3⟩:=za4 hq
   obtain⟨v,k1,_⟩:=zdu hT h1 hG e1 (by rw[e2];exact hS) (ds:=ds') (dst:=dst) (ty:=ty) (pos:=pos) (aft:=aft) (gd:=gd)
   exact⟨v,k1 w⟩
 · obtain⟨r',e1⟩:=Option.isSome_iff_exists.1 hq
   obtain⟨v,k1,_⟩:=zc3 hT h1 hG e1 (ds:=ds') (dst:=dst) (ty:=ty) (pos:=pos) (aft:=aft) (gd:=gd)
   exact⟨v,k1 w⟩
 · obtain⟨r',e1,e2,e3⟩:=za4 hq
   obtain⟨v,k1,_⟩:=zbb hT h1 hG e1 (by rw[e2];exact hS) (ds:=ds') (dst:=dst) (ty:=ty) (pos:=pos) (aft:=aft) (gd:=gd)
   exact⟨v,k1 w⟩
 · obtain⟨r',e1,e2,e3⟩:=za4 hq
   obtain⟨v,k1,_⟩:=zbV hT h1 hG e1 (by rw[e2];exact hS) (ds:=ds') (dst:=dst) (ty:=ty) (pos:=pos) (aft:=aft) (gd:=gd)
   exact⟨v,k1 w⟩
 · obtain⟨r',e1,e2,e3⟩:=za4 hq
   obtain⟨v,w',k1,k2,_⟩:=zdT hT h1 hG e1 (by rw[e2];exact hS) (fun o ho1 ho2=>by omega) (ds:=ds') (dst:=dst) (ty:=ty) (pos:=pos) (aft:=aft) (gd:=gd)
   rw[k2]at k1;exact⟨v,k1⟩
 ·cases hq
theorem zcu {E:Nat->Prop}{C0:Ctx}{nt:Nat}{ops:Array Oper}{ds:List Deferred}{Q:Act->Prop}(hT:TabOk P tab) :
 ∀ (l : List Oper) {Γ : Gam} {nx no : Nat} {rs : List Row} {Γ' : Gam} {nx' no' : Nat} {kn : Kn} {a : Act}, anSeq tab sigs ops nt l Γ nx no = some (rs, Γ', nx', no') -> quietSeq tab ops l rs Γ = true ->
   HoldsS (CallOk P tab sigs) ρ (sisOf rs)->St tab nt E C0 Γ ρ a w ds kn Wr w0->(∀o,E o->o<no)->kn.below nx no ->
   (∀a' kn',St tab nt E C0 Γ' ρ a' w ds kn' Wr w0->kn'.below nx' no'->Q a')->wpStill P ops w Q l a
 | [], Γ, nx, no, rs, Γ', nx', no', kn, a, hr, hq, hS, hst, hE, hkn, hQ => by
   cases hr
   exact hQ a kn hst hkn
 | o :: l, Γ, nx, no, rs, Γ', nx', no', kn, a, hr, hq, hS, hst, hE, hkn, hQ => by
   simp only[anSeq]at hr
   split at hr
   case h_2=>cases hr
   rename_i G r hstep
   split at hr
   case h_2=>cases hr
   rename_i rs' Γ2 nx2 no2 hrest
   cases hr
   simp only[quietSeq,Bool.and_eq_true]at hq
   obtain⟨hq1,hq2⟩:=hq
   have hle:=zeJ hstep
   have:=zb1 (K:=fun a' w'=>w'=w->wpStill P ops w Q l a') (Q:=fun _ _ _=>False) hT hst hE hstep hS.left (fun o h1 h2 hk=>by have:=hkn.1 o hk;omega) (fun x h1 h2 hk=>by have:=hkn.2 x hk;omega)
    (fun a' w' kn' h1 h2 h3 h4 hw => by
     rw[hw]at h1
     exact zcu hT l hrest hq2 hS.right h1 (fun o ho=>by have:=hE o ho;omega)
      ⟨fun o ho => by rcases h3 o ho with h | h
                      ·have:=hkn.1 o h;omega
                      · omega, fun x hx => by rcases h4 x hx with h | h
                                              ·have:=hkn.2 x h;omega
                                              ·omega⟩ hQ)
   unfold wpStill
   split
   · rename_i hw
     rw[if_pos hw]at this
     obtain⟨v,hv⟩:=zeE (sigs:=sigs) hT hst hq1 hS.left hw
     unfold Oper.wp at this
     rw[hv]at this
     unfold Oper.still
     rw[hv,Oper.stillUpon_value]
     exact this rfl
   · rename_i hw
     rw[if_neg hw]at this
     exact this rfl
def quietReg (tab:Tab)(ops:Array Oper)(rows:List Row)(Γ:Gam):Bool:=quietSeq tab ops ops.toList rows Γ&&Region.lexB .any ops
theorem zfc {E:Nat->Prop}{C0:Ctx}{nt:Nat}{ops:Array Oper}{ds:List Deferred}{Q:Exit->Act->World->Prop}{rows:List Row}{Γ':Gam}{nx' no' id:Nat}{a:Act}(hT:TabOk P tab)(hm:P.follows .mixedOrders=true)
 (hcan:anSeq tab sigs ops nt ops.toList Γ nx no=some (rows,Γ',nx',no')) (hq:quietReg tab ops rows Γ=true) (hS:HoldsS (CallOk P tab sigs) ρ (sisOf rows))
 (hst:St tab nt E C0 Γ ρ a w ds kn Wr w0) (hE:∀o,E o->o<no) (hkn:kn.below nx no)
 (hQ:∀a' w' kn',St tab nt E C0 Γ' ρ a' w' ds kn' Wr w0->kn'.below nx' no'->Q .normal a' w'):(Code.region id ops true).wp P Q a w:=by
 simp only[quietReg,Bool.and_eq_true]at hq
 obtain⟨hq1,hq2⟩:=hq
 refine wp_region_still hm hq2 ?_
 obtain⟨⟨C,h1,hk⟩,h2,h3,h4⟩:=hst
 exact zcu (Q:=fun a'=>Q .normal a' { w with drawn:=w.drawn+1 }) (w:={ w with drawn:=w.drawn+1 }) hT ops.toList hcan hq1 hS ⟨⟨C,h1.grows (Grows.drew w),hk⟩,h2,h3,h4⟩ hE hkn (fun a' kn' k1 k2=>hQ a' _ kn' k1 k2)
end
end Gp
namespace Gp
open Go
section
variable {P:Program}{ops:Array Oper}{md:Region.Mode}{Q:Exit->Act->World->Prop}
def PureAt (P:Program)(ops:Array Oper)(o:Oper)(v:Value)(a:Act):Prop :=
 (Region.wanted o (yielded ops a.tmps)=true/\∀w,(execOp a.eval o).run P w = .ok (.value v) w)\/(Region.wanted o (yielded ops a.tmps)=false/\v=undef)
theorem PureAt.of_same{o:Oper}{v:Value}{a a':Act}(hy:PureAt P ops o v a)(he:execOp a'.eval o=execOp a.eval o)
 (hw:Region.wanted o (yielded ops a'.tmps)=Region.wanted o (yielded ops a.tmps)):PureAt P ops o v a':=by
 unfold PureAt at *
 rw[he,hw]
 exact hy
theorem PureAt.wpOp{i:Nat}{o:Oper}{v:Value}{a:Act}{w:World}(hi:ops[i]? = some o)(hy:PureAt P ops o v a){K:Act->World->Prop}(h:K (a.put o.dst v) w):wpOp P ops Q i K a w:=by
 unfold Go.wpOp
 simp only[hi]
 rcases hy with⟨hw,hv⟩|⟨hw,rfl⟩
 · simp only[hw,if_true]
   refine .inl ?_
   unfold Oper.wp
   rw[hv w]
   exact h
 ·simp only[hw,Bool.false_eq_true,if_false];exact h
theorem zkw (hQ : ∀ ex a w, Q ex a w -> ex = .normal) {j : Nat} {oi oj : Oper} {v : Value} (hj : ops[j]? = some oj) (hap : oi.apart ops oj = true)
 (hsi:∀cs b,oi.op ≠ .select cs b) (hsj:∀cs b,oj.op ≠ .select cs b) {K:Act->World->Prop} {a:Act} {w:World}
 (hy:PureAt P ops oi v a) (h:wpOp P ops Q j K (a.put oi.dst v) w) :
 wpOp P ops Q j (fun a' w'=>PureAt P ops oi v a'/\K (a'.put oi.dst v) w') a w:=by
 obtain⟨h1,h2,h3⟩:=Oper.apart_spec hap
 have keep:∀(a:Act),PureAt P ops oi v a->∀u,PureAt P ops oi v (a.put oj.dst u):=fun a hy u =>
  hy.of_same (execOp_put oi hsi a oj.dst u h3) (wanted_put oi a oj.dst u h3)
 unfold wpOp at *
 simp only[hj]at *
 rw[wanted_put oj a oi.dst v h1]at h
 split
 · rename_i hw
   simp only[hw,if_true]at h
   rcases h with h|⟨_,_,_,hl⟩
   · refine .inl ?_
     unfold Oper.wp at *
     rw[execOp_put oj hsj a oi.dst v h1]at h
     generalize (execOp a.eval oj).run P w=r at *
     cases r with
     | ok n w' =>
       cases n<;>simp only[Oper.upon]at h ⊢
       case value u=>exact⟨keep a hy u,by rw[<- Act.put_comm a v u h2];exact h⟩
       case skip=>exact⟨keep a hy _,by rw[<- Act.put_comm a v undef h2];exact h⟩
       case defer d =>
        refine⟨keep { a with defers:=d::a.defers } hy _,?_⟩
        rw[<- Act.put_comm { a with defers:=d::a.defers } v undef h2]
        have e:({ a with defers:=d::a.defers }:Act).put oi.dst v = { a.put oi.dst v with defers:=d::(a.put oi.dst v).defers }:=by
         cases oi.dst<;>rfl
        rw[e];exact h
       case enter f args =>
        refine Calls.mono h fun e w'' he=>?_
        cases e with
        |returned u=>exact⟨keep a hy u,by rw[<- Act.put_comm a v u h2];exact he⟩
        |panicked c=>cases hQ _ _ _ he
        |outgrown=>exact he
       case row r args=>exact Rows.mono h fun u w'' he=>⟨keep a hy u,by rw[<- Act.put_comm a v u h2];exact he⟩
     | halt x w' =>
       cases x<;>simp only[Oper.upon]at h ⊢
       cases hQ _ _ _ h
   ·cases hQ _ _ _ hl
 · rename_i hw
   simp only[hw]at h
   exact⟨keep a hy _,by rw[<- Act.put_comm a v undef h2];exact h⟩
theorem zi2 (hQ:∀ex a w,Q ex a w->ex = .normal){i:Nat}{oi:Oper}{v:Value}(hi:ops[i]? = some oi)(hsel:∀(j:Nat) (o:Oper) cs b,ops[j]? = some o->o.op ≠ .select cs b) :
 ∀ (fuel : Nat) (listed : Array Bool) (a : Act) (w : World),
   (∀j oj,ops[j]? = some oj->j≠i->listed.getD j true=false->(∀e∈oj.after,Region.binds md e=true->e.on≠i)->oi.apart ops oj=true) ->
   i∈Region.ready md ops listed->PureAt P ops oi v a ->
   wpAny P md ops Q fuel (listed.setIfInBounds i true) (a.put oi.dst v) w->wpAny P md ops Q (fuel+1) listed a w:=by
 intro fuel
 induction fuel with
 | zero =>
   intro listed a w _ hr hy H
   refine⟨fun h=>(by rw[h]at hr;cases hr),fun j hj=>?_⟩
   by_cases hji:j=i
   ·subst hji;exact hy.wpOp hi H
   · have:=ready_mono hj hji
     rw[H.1]at this
     cases this
 | succ fuel ih =>
   intro listed a w hfree hr hy H
   refine⟨fun h=>(by rw[h]at hr;cases hr),fun j hj=>?_⟩
   by_cases hji:j=i
   ·subst hji;exact hy.wpOp hi H
   · have h1:=H.2 j (ready_mono hj hji)
     obtain⟨hjun,oj,hoj,hall⟩:=mem_ready.1 hj
     have hnot:∀e∈oj.after,Region.binds md e=true->e.on≠i:=fun e he hb heq=>by
      have h1:=hall e he hb
      have h0:=(mem_ready.1 hr).1
      rw[heq]at h1
      rcases Nat.lt_or_ge i listed.size with h'|h'
      ·simp[h']at h0 h1;rw[h0]at h1;cases h1
      ·simp[Array.getElem?_eq_none h']at h1
     have h2:=zkw hQ hoj (hfree j oj hoj hji hjun hnot) (fun cs b=>hsel i oi cs b hi) (fun cs b=>hsel j oj cs b hoj) hy h1
     have hfree':∀k ok,ops[k]? = some ok->k≠i->(listed.setIfInBounds j true).getD k true=false ->
      (∀e∈ok.after,Region.binds md e=true->e.on≠i)->oi.apart ops ok=true:=fun k ok hk hki hun hno=>by
      refine hfree k ok hk hki ?_ hno
      by_cases hjk:j=k
      ·subst hjk;exact hjun
      ·rw[Go.getD_set_ne true hjk]at hun;exact hun
     refine wpOp_mono (fun a' w' h3=>ih (listed.setIfInBounds j true) a' w' hfree' (ready_mono hr (Ne.symm hji)) h3.1 ?_) h2
     rw[Array.setIfInBounds_comm _ _ hji]
     exact h3.2
end
end Gp
namespace Gp
open Go
def pureKind:Op->Bool
 |.move _|.assign _|.binOp ..|.convert ..|.indexAddr ..|.slice ..|.fieldAddr ..=>true
 |_=>false
def freeAt (ops:Array Oper)(i:Nat)(oi:Oper):List Oper->Nat->Bool
 |[],_=>true
 |oj::l,j=>(Nat.beq j i||((preOf oj).any (Nat.beq i)||((preOf oi).any (Nat.beq j)||oi.apart ops oj)))&&freeAt ops i oi l (j+1)
def pureOps (ops:Array Oper):List Oper->Nat->List Bool
 |[],_=>[]
 |o::l,i=>(pureKind o.op&&freeAt ops i o ops.toList 0)::pureOps ops l (i+1)
def firstPure(m:Nat):List Bool->List Oper->Nat->Option Nat
 |b::bs,o::os,i=>if b&&(!m.testBit i&&rdy m (preOf o)) then some i else firstPure m bs os (i+1)
 |_,_,_=>none
def pureStep (tab:Tab)(ops:Array Oper)(Γ:Gam)(R:Row)(nx no:Nat)(o:Oper):Bool:=match guardOf ops Γ o with
 | some G => match o.op with
   |.move _=>true
   |.assign _=>true
   |.binOp p xt x y _=>sameRes R no (anBin tab Γ G nx no p xt x y)
   |.convert s d x=>(anConv tab Γ G nx no s d x).isSome
   |.indexAddr t x i=>sameRes R no (anIndexAddr tab Γ G nx no t x i)
   |.slice t x lo hi mx=>sameRes R no (anSlice tab Γ G nx no t x lo hi mx)
   |.fieldAddr s x f=>(anFieldAddr tab Γ G nx no s x f).isSome
   |_=>false
 |none=>false
def stepChk (tab:Tab)(sigs:List Sig)(ops:Array Oper)(nt:Nat)(rows:List Row)(Γm:Gam)(m:Nat)(masks:MT)(R:Row)(o:Oper)(i:Nat):Bool :=
 (match anStep tab sigs ops nt Γm R.nx R.no o with
  |some (G,r)=>decide (G=R.G)&&decide (r.sv=R.r.sv)&&decide (r.ob=R.r.ob)&&decide (r.sis=R.r.sis)&&Nat.beq r.nx R.r.nx&&Nat.beq r.no R.r.no
  |none=>false)&&masks.contains (addBit m i)&&apartAt R m rows 0 i
def porMask (tab:Tab)(sigs:List Sig)(ops:Array Oper)(nt:Nat)(rows:List Row)(Γ:Gam)(masks:MT)(pf:List Bool)(m:Nat):Bool :=
 match firstPure m pf ops.toList 0 with
 | some i => match rows[i]?, ops.toList[i]? with
   |some R,some o=>stepChk tab sigs ops nt rows (gamOf rows 0 m Γ) m masks R o i&&pureStep tab ops (gamOf rows 0 m Γ) R R.nx R.no o
   |_,_=>false
 |none=>anyMask tab sigs ops nt rows Γ masks m
def porChk (tab:Tab)(sigs:List Sig)(ops:Array Oper)(nt:Nat)(rows:List Row)(Γ:Gam)(masks:MT):Bool :=
 masks.contains 0&&Region.noSelect ops&&masks.all (porMask tab sigs ops nt rows Γ masks (pureOps ops ops.toList 0))
section
variable {tab:Tab}{Γ Γ':Gam}{ρ ρ':Env}{tm:Array Value}{w w':World}{C C1 Cx:Ctx}{kn kn':Kn}{Wr:CS}{w0:World}{P:Program}{G:Grd}{nx no nx' no' nb:Nat}{obs:Obs}{S:Sig}{sigs:List Sig}
theorem ze6 {ops:Array Oper}{i:Nat}{oi:Oper}:∀(l:List Oper) (k:Nat),freeAt ops i oi l k=true ->
 ∀(j:Nat) (oj:Oper),l[j]? = some oj->k+j≠i->i∉preOf oj->(k+j)∉preOf oi->oi.apart ops oj=true
 |[],k,_,j,oj,hj,_,_,_=>by simp at hj
 | o :: l, k, h, j, oj, hj, h1, h2, h3 => by
   simp only[freeAt,Bool.and_eq_true,Bool.or_eq_true]at h
   obtain⟨ha,hb⟩:=h
   cases j with
   | zero =>
     simp at hj;subst hj
     rcases ha with ha|ha|ha|ha
     ·exact absurd (Nat.eq_of_beq_eq_true ha) h1
     · obtain⟨x,hx,e⟩:=List.any_eq_true.1 ha
       exact absurd (Nat.eq_of_beq_eq_true e▸hx) h2
     · obtain⟨x,hx,e⟩:=List.any_eq_true.1 ha
       exact absurd (Nat.eq_of_beq_eq_true e▸hx) h3
     ·exact ha
   | succ j =>
     exact ze6 l (k+1) hb j oj (by simpa using hj) (by omega) h2 (by rw[show k+1+j=k+(j+1) by omega];exact h3)
theorem zdM {ops:Array Oper}:∀(l:List Oper) (k:Nat) (i:Nat),(pureOps ops l k)[i]? = some true->∃o,l[i]? = some o/\pureKind o.op=true/\freeAt ops (k+i) o ops.toList 0=true
 |[],k,i,h=>by simp[pureOps]at h
 | o :: l, k, i, h => by
   simp only[pureOps]at h
   cases i with
   | zero =>
     simp only[List.getElem?_cons_zero,Option.some.injEq,Bool.and_eq_true]at h
     exact⟨o,rfl,h.1,h.2⟩
   | succ i =>
     obtain⟨o',h1,h2,h3⟩:=zdM l (k+1) i (by simpa using h)
     exact⟨o',by simpa using h1,h2,by rw[show k+(i+1)=k+1+i by omega];exact h3⟩
theorem zct {m:Nat}:∀(bs:List Bool) (os:List Oper) (k i:Nat),firstPure m bs os k=some i->∃j o,i=k+j/\bs[j]? = some true/\os[j]? = some o/\m.testBit i=false/\rdy m (preOf o)=true
 |[],os,k,i,h=>by simp[firstPure]at h
 |b::bs,[],k,i,h=>by simp[firstPure]at h
 | b :: bs, o :: os, k, i, h => by
   simp only[firstPure]at h
   split at h
   · rename_i hc
     cases h
     simp only[Bool.and_eq_true,Bool.not_eq_true']at hc
     exact⟨0,o,rfl,by simp[hc.1],rfl,hc.2.1,hc.2.2⟩
   · obtain⟨j,o',h1,h2,h3,h4⟩:=zct bs os (k+1) i h
     exact⟨j+1,o',by omega,by simpa using h2,by simpa using h3,h4⟩
theorem zfh {E:Nat->Prop}{C0:Ctx}{nt:Nat}{ops:Array Oper}{o:Oper}{a:Act}{ds:List Deferred}{R:Row}(hT:TabOk P tab)(h:St tab nt E C0 Γ ρ a w ds kn Wr w0)
 (hq:pureStep tab ops Γ R nx no o=true) (hS:HoldsS (CallOk P tab sigs) ρ R.r.sis):∃v,PureAt P ops o v a:=by
 unfold PureAt
 by_cases hw:Region.wanted o (yielded ops a.tmps)=true
 case neg=>exact⟨undef,.inr ⟨by simpa using hw,rfl⟩⟩
 suffices hh:∃v,∀w,(execOp a.eval o).run P w = .ok (.value v) w from hh.imp fun v hv=>.inl ⟨hw,hv⟩
 obtain⟨⟨C,h1,_⟩,h2,h3,h4⟩:=h
 unfold pureStep at hq
 split at hq
 case h_2=>cases hq
 rename_i G hg
 have hG:=(zbQ h1 hg (fun t ht=>by rw[h2];exact h3 t ht)).1 hw
 obtain⟨dst,op,ty,pos,aft,gd⟩:=o
 obtain⟨tm,ds'⟩:=a
 simp only at h1 hq ⊢
 split at hq
 ·exact⟨_,fun _=>rfl⟩
 ·exact⟨_,fun _=>rfl⟩
 · obtain⟨r',e1,e2,e3⟩:=za4 hq
   obtain⟨v,k1,_⟩:=zdu hT h1 hG e1 (by rw[e2];exact hS) (ds:=ds') (dst:=dst) (ty:=ty) (pos:=pos) (aft:=aft) (gd:=gd)
   exact⟨v,k1⟩
 · obtain⟨r',e1⟩:=Option.isSome_iff_exists.1 hq
   obtain⟨v,k1,_⟩:=zc3 hT h1 hG e1 (ds:=ds') (dst:=dst) (ty:=ty) (pos:=pos) (aft:=aft) (gd:=gd)
   exact⟨v,k1⟩
 · obtain⟨r',e1,e2,e3⟩:=za4 hq
   obtain⟨v,k1,_⟩:=zbb hT h1 hG e1 (by rw[e2];exact hS) (ds:=ds') (dst:=dst) (ty:=ty) (pos:=pos) (aft:=aft) (gd:=gd)
   exact⟨v,k1⟩
 · obtain⟨r',e1,e2,e3⟩:=za4 hq
   obtain⟨v,k1,_⟩:=zbV hT h1 hG e1 (by rw[e2];exact hS) (ds:=ds') (dst:=dst) (ty:=ty) (pos:=pos) (aft:=aft) (gd:=gd)
   exact⟨v,k1⟩
 · obtain⟨r',e1⟩:=Option.isSome_iff_exists.1 hq
   unfold anFieldAddr at e1
   split at e1
   · rename_i hf hx
     obtain⟨⟨_,b,base,_,hv⟩,_⟩:=zab h1 hG hx (ds:=ds')
     exact⟨_,fun w=>by simp only[execOp,hv,Sem.run_bind,zbN hT hf,Result.andThen_ok,Sem.run_pure];rfl⟩
   · rename_i hf hx
     obtain⟨⟨_,m,b,base,_,_,_,hv⟩,_⟩:=zab h1 hG hx (ds:=ds')
     exact⟨_,fun w=>by simp only[execOp,hv,Sem.run_bind,zbN hT hf,Result.andThen_ok,Sem.run_pure];rfl⟩
   ·cases e1
 ·cases hq
theorem zgS {nt:Nat}{ops:Array Oper}{rows:List Row}{Γm:Gam}{m:Nat}{masks:MT}{R:Row}{o:Oper}{i:Nat}(h:stepChk tab sigs ops nt rows Γm m masks R o i=true) :
 anStep tab sigs ops nt Γm R.nx R.no o=some (R.G,R.r)/\masks.contains (addBit m i)=true/\apartAt R m rows 0 i=true:=by
 unfold stepChk at h
 simp only[Bool.and_eq_true]at h
 obtain⟨⟨h3,h4⟩,h5⟩:=h
 refine⟨?_,h4,h5⟩
 split at h3
 · rename_i G r hst
   simp only[Bool.and_eq_true,decide_eq_true_eq]at h3
   obtain⟨⟨⟨⟨⟨a1,a2⟩,a3⟩,a4⟩,a5⟩,a6⟩:=h3
   replace a5:=Nat.eq_of_beq_eq_true a5
   replace a6:=Nat.eq_of_beq_eq_true a6
   rw[hst]
   obtain⟨b1,b2,b3,b4,b5⟩:=r
   obtain⟨RG,⟨c1,c2,c3,c4,c5⟩,Rnx,Rno,Rdst⟩:=R
   simp only at a1 a2 a3 a4 a5 a6
   subst a1;subst a2;subst a3;subst a4;subst a5;subst a6
   rfl
 ·cases h3
theorem zjC {E : Nat -> Prop} {C0 : Ctx} {nt : Nat} {ops : Array Oper} {ds : List Deferred} {rows : List Row} {masks : MT} {Q : Exit -> Act -> World -> Prop} (hT : TabOk P tab) (hcan : anSeq tab sigs ops nt ops.toList Γ nx no = some (rows, Γ', nx', no'))
 (hQn:∀ex a w,Q ex a w->ex = .normal) (hchk:porChk tab sigs ops nt rows Γ masks=true) (hS:HoldsS (CallOk P tab sigs) ρ (sisOf rows)) (hE:∀o,E o->o<no)
 (hQ:∀a' w' kn',St tab nt E C0 Γ' ρ a' w' ds kn' Wr w0->kn'.below nx' no'->Q .normal a' w') :
 ∀ (fuel : Nat) (listed : Array Bool) (m : Nat) (kn : Kn) (a : Act) (w : World), masks.contains m = true -> (∀ i, listed.getD i false = m.testBit i) -> listed.size = ops.size -> left m ops.size = fuel ->
   St tab nt E C0 (gamOf rows 0 m Γ) ρ a w ds kn Wr w0->KnAt rows nx no m kn->wpAny P .any ops Q fuel listed a w:=by
 obtain⟨r1,r2,r3,r4,r5⟩:=zcm _ hcan
 have hlen:rows.length=ops.size:=by simpa using r1
 have hsis:∀(l:List Row),HoldsS (CallOk P tab sigs) ρ (sisOf l)->∀(i:Nat) (R:Row),l[i]? = some R->HoldsS (CallOk P tab sigs) ρ R.r.sis:=by
  intro l
  induction l with
  |nil=>intro _ i R hi;simp at hi
  | cons R0 l ih =>
    intro h i R hi
    cases i with
    |zero=>simp at hi;subst hi;exact h.left
    |succ i=>exact ih h.right i R (by simpa using hi)
 have hdone:∀(m:Nat) (kn:Kn) (a:Act) (w:World),(∀i,i<ops.size->m.testBit i=true)->St tab nt E C0 (gamOf rows 0 m Γ) ρ a w ds kn Wr w0->KnAt rows nx no m kn->Q .normal a w:=by
  intro m kn a w hm hst hkn
  rw[zeT _ 0 m hcan fun i _ h2=>hm i (by omega)]at hst
  refine hQ a w kn hst ⟨fun o ho=>?_,fun x hx=>?_⟩
  · rcases hkn.1 o ho with h|⟨i,R,h1,_,_,h2⟩
    ·omega
    ·have:=(r4 i R h1).2.2.2.1;omega
  · rcases hkn.2 x hx with h|⟨i,R,h1,_,_,h2⟩
    ·omega
    ·have:=(r4 i R h1).2.1;omega
 have hrd : ∀ (listed : Array Bool) (m : Nat), (∀ i, listed.getD i false = m.testBit i) -> listed.size = ops.size -> ∀ j, j ∈ Region.ready .any ops listed ↔ ∃ o : Oper, ops[j]? = some o /\ m.testBit j = false /\ rdy m (preOf o) = true := by
  intro listed m hl hsz j
  rw[mem_ready]
  constructor
  · rintro⟨h1,o,h2,h3⟩
    have hj:j<listed.size:=by have:=(Array.getElem?_eq_some_iff.1 h2).1;omega
    refine⟨o,h2,?_,?_⟩
    · rw[<- hl j]
      rw[Array.getD_eq_getD_getElem?,Array.getElem?_eq_getElem hj]at h1 ⊢
      exact h1
    · simp only[rdy,preOf,List.all_eq_true,List.mem_map,List.mem_filter]
      rintro x ⟨e,⟨he1,he2⟩,rfl⟩
      rw[<- hl];exact h3 e (by simpa using he1) he2
  · rintro⟨o,h1,h2,h3⟩
    have hj:j<listed.size:=by have:=(Array.getElem?_eq_some_iff.1 h1).1;omega
    refine⟨?_,o,h1,fun e he hb=>?_⟩
    · rw[<- hl j]at h2
      rw[Array.getD_eq_getD_getElem?,Array.getElem?_eq_getElem hj]at h2 ⊢
      exact h2
    · simp only[rdy,preOf,List.all_eq_true,List.mem_map,List.mem_filter]at h3
      rw[hl];exact h3 e.on ⟨e,⟨by simpa using he,hb⟩,rfl⟩
 simp only[porChk,Bool.and_eq_true]at hchk
 obtain⟨⟨hc0,hsel⟩,hcm⟩:=hchk
 intro fuel
 induction fuel with
 | zero =>
   intro listed m kn a w hmem hl hsz hleft hst hkn
   have hfull:=zey _ hleft
   refine⟨?_,hdone m kn a w hfull hst hkn⟩
   cases hrr:Region.ready .any ops listed with
   |nil=>rfl
   | cons j js =>
     obtain⟨o,h1,h2,_⟩:=(hrd listed m hl hsz j).1 (by rw[hrr];simp)
     have hj:j<ops.size:=(Array.getElem?_eq_some_iff.1 h1).1
     rw[hfull j hj]at h2;cases h2
 | succ fuel ih =>
   intro listed m kn a w hmem hl hsz hleft hst hkn
   have hm:=MT.all_get hmem hcm
   have key : ∀ (i : Nat) (o : Oper) (R : Row), ops[i]? = some o -> m.testBit i = false -> rows[i]? = some R -> anStep tab sigs ops nt (gamOf rows 0 m Γ) R.nx R.no o = some (R.G, R.r) -> masks.contains (addBit m i) = true -> apartAt R m rows 0 i = true ->
    if Region.wanted o (yielded ops a.tmps) then o.wp P a w (wpAny P .any ops Q fuel (listed.setIfInBounds i true)) Q else wpAny P .any ops Q fuel (listed.setIfInBounds i true) (a.put o.dst undef) w:=by
    intro i o R h1 h2 hR s1 s2 s3
    have hi':i<ops.size:=(Array.getElem?_eq_some_iff.1 h1).1
    obtain⟨q1,q2,q3,q4,o',q5,q6⟩:=r4 i R hR
    have:o'=o:=by rw[Array.getElem?_toList,h1]at q5;cases q5;rfl
    subst this
    have hapart:∀(j:Nat) (S:Row),rows[j]? = some S->m.testBit j=true->j≠i->(R.r.no<=S.no\/S.r.no<=R.no)/\(R.r.nx<=S.nx\/S.r.nx<=R.nx):=by
     intro j S hS' _ hne
     rcases Nat.lt_or_ge i j with hlt|hge
     ·have:=r5 i j R S hR hS' hlt;exact⟨.inl this.2,.inl this.1⟩
     ·have:=r5 j i S R hS' hR (by omega);exact⟨.inr this.2,.inr this.1⟩
    have hne:∀j,m.testBit j=true->j≠i:=by rintro j hj rfl;rw[h2]at hj;cases hj
    exact zb1 (Q := Q) (K := wpAny P .any ops Q fuel (listed.setIfInBounds i true)) hT hst (fun o ho => by have := hE o ho; omega) s1 (hsis rows hS i R hR)
     (fun x h4 h5 hk=>by
      rcases hkn.1 x hk with h|⟨j,S,a1,a2,a3,a4⟩
      ·omega
      ·have:=(hapart j S a1 a2 (hne j a2)).1;omega)
     (fun x h4 h5 hk=>by
      rcases hkn.2 x hk with h|⟨j,S,a1,a2,a3,a4⟩
      ·omega
      ·have:=(hapart j S a1 a2 (hne j a2)).2;omega)
     (fun a' w' kn' k1 k2 k3 k4 => by
      refine ih (listed.setIfInBounds i true) (addBit m i) kn' a' w' s2 (fun j=>?_) (by simpa using hsz) (by have:=zfR h2 ops.size hi';omega) ?_ ⟨fun x hx=>?_,fun x hx=>?_⟩
      · rw[zao,Array.getD_eq_getD_getElem?,Array.getElem?_setIfInBounds]
        by_cases e:i=j
        · subst e
          simp[show i<listed.size by omega]
        · rw[if_neg e,<- Array.getD_eq_getD_getElem?,hl j]
          simp[e]
      · refine k1.congr ?_
        rw[<- q6]
        exact zer rows 0 i m Γ (Nat.zero_le _) (by simpa using hR) h2 s3
      · rcases k3 x hx with h|h
        · rcases hkn.1 x h with h|⟨j,S,a1,a2,a3,a4⟩
          ·exact .inl h
          ·exact .inr ⟨j,S,a1,by rw[zao,a2];rfl,a3,a4⟩
        ·exact .inr ⟨i,R,hR,by rw[zao];simp,h.1,h.2⟩
      · rcases k4 x hx with h|h
        · rcases hkn.2 x h with h|⟨j,S,a1,a2,a3,a4⟩
          ·exact .inl h
          ·exact .inr ⟨j,S,a1,by rw[zao,a2];rfl,a3,a4⟩
        ·exact .inr ⟨i,R,hR,by rw[zao];simp,h.1,h.2⟩)
   unfold porMask at hm
   split at hm
   · rename_i i hf
     split at hm
     case h_2=>cases hm
     rename_i R o hR ho
     rw[Array.getElem?_toList]at ho
     simp only[Bool.and_eq_true]at hm
     obtain⟨hm1,hm2⟩:=hm
     obtain⟨s1,s2,s3⟩:=zgS hm1
     obtain⟨j,o2,e1,e2,e3,e4,e5⟩:=zct _ _ _ _ hf
     rw[Nat.zero_add]at e1
     subst e1
     rw[Array.getElem?_toList,ho]at e3
     cases e3
     obtain⟨o3,f1,f2,f3⟩:=zdM _ _ _ e2
     rw[Array.getElem?_toList,ho]at f1
     cases f1
     rw[Nat.zero_add]at f3
     obtain⟨v,hv⟩:=zfh hT hst hm2 (hsis rows hS _ R hR)
     have hk:=key _ o R ho e4 hR s1 s2 s3
     refine zi2 hQn ho (Region.noSelect_spec hsel) fuel listed a w (fun j' oj hj hne hun hno=>?_) ((hrd listed m hl hsz _).2 ⟨o,ho,e4,e5⟩) hv ?_
     · refine ze6 _ 0 f3 j' oj (by simpa using hj) (by omega) (fun hmem'=>?_) (fun hmem'=>?_)
       · simp only[preOf,List.mem_map,List.mem_filter]at hmem'
         obtain⟨e,⟨he1,he2⟩,he3⟩:=hmem'
         exact hno e (by simpa using he1) he2 he3
       · rw[Nat.zero_add]at hmem'
         have hb:m.testBit j'=true:=by
          simp only[rdy,List.all_eq_true]at e5
          exact e5 _ hmem'
         have hj':j'<listed.size:=by have:=(Array.getElem?_eq_some_iff.1 hj).1;omega
         have h1:=hl j'
         rw[hb]at h1
         rw[Array.getD_eq_getD_getElem?,Array.getElem?_eq_getElem hj']at h1 hun
         simp only[Option.getD_some]at h1 hun
         rw[h1]at hun;cases hun
     · rcases hv with⟨g1,g2⟩|⟨g1,rfl⟩
       · rw[if_pos g1]at hk
         unfold Oper.wp at hk
         rw[g2 w]at hk
         exact hk
       · rw[if_neg (by rw[g1];simp)]at hk
         exact hk
   simp only[anyMask,Bool.and_eq_true,Bool.or_eq_true]at hm
   obtain⟨hm1,hm2⟩:=hm
   refine⟨fun hnil=>?_,fun i hi=>?_⟩
   · rcases hm2 with h|h
     · have h:=Nat.eq_of_beq_eq_true h
       refine hdone m kn a w (fun i hi=>?_) hst hkn
       rw[h,Nat.testBit_two_pow_sub_one];simp;omega
     · obtain⟨i,o,h1,h2,h3⟩:=zcc _ 0 h
       have:=(hrd listed m hl hsz i).2 ⟨o,by simpa using h1,by simpa using h2,h3⟩
       rw[hnil]at this;cases this
   · obtain⟨o,h1,h2,h3⟩:=(hrd listed m hl hsz i).1 hi
     have hi':i<ops.size:=(Array.getElem?_eq_some_iff.1 h1).1
     obtain⟨R,hR⟩:∃R,rows[i]? = some R:=⟨_,List.getElem?_eq_getElem (by omega)⟩
     obtain⟨s1,s2,s3⟩:=zc6 rows ops.toList 0 hm1 i R o hR (by simpa using h1) (by simpa using h2) h3
     rw[Nat.zero_add]at s2 s3
     have hstep:=key i o R h1 h2 hR s1 s2 s3
     unfold wpOp
     rw[h1]
     show if Region.wanted o (yielded ops a.tmps)=true then _ else _
     split
     ·rename_i hw;rw[if_pos hw]at hstep;exact .inl hstep
     ·rename_i hw;rw[if_neg hw]at hstep;exact hstep
end
end Gp
