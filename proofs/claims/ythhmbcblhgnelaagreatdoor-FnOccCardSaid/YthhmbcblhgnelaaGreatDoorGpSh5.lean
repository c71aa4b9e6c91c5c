import Derived.Test.YthhmbcblhgnelaaGreatDoorGpSh4
import Derived.Test.YthhmbcblhgnelaaGreatDoorGpTop3
set_option linter.unusedVariables false
set_option linter.unusedSimpArgs false
namespace Gp
open Go Sh
inductive Sp where
 |int (k:IntKind)|bool|str|list (t:Sp)|unit|pair (a b:Sp)
 deriving Repr,Inhabited
@[reducible] def Sp.ty:Sp->Ty
 |.int _=>.int|.bool=>.bool|.str=>.str|.list t=>.list t.ty|.unit=>.unit|.pair a b=>.pair a.ty b.ty
def Sp.ok:(s:Sp)->s.ty.den->Prop
 |.int k,n=>(Lit.int k n).wf=true
 |.bool,_=>True
 |.str,s=>List.length (α:=UInt8) s<=Go.maxLen
 |.list t,l=>List.length (α:=t.ty.den) l<=Go.maxLen/\∀x,x∈(l:List t.ty.den)->t.ok x
 |.unit,_=>True
 |.pair a b,v=>a.ok v.1/\b.ok v.2
def Sp.isPair:Sp->Bool
 |.pair ..=>true
 |_=>false
def Sp.tup:List Sp->Sp
 |[]=>.unit
 |[s]=>s
 |s::t::r=>.pair s (Sp.tup (t::r))
def allCk (f:CK->Option Sp):List CK->Option (List Sp)
 |[]=>some []
 | c :: r => match f c, allCk f r with
   |some s,some l=>some (s::l)
   |_,_=>none
def shOf (tab:Tab):Nat->CK->Option Sp
 |_,.int k=>some (.int k)
 |_,.bool=>some .bool
 |_,.str=>some .str
 | n + 1, .sl et => match tab.get et with
   | some ti => if ti.size == ti.cks.length then match allCk (shOf tab n) ti.cks with
     |some l=>if l.any Sp.isPair then none else some (.list (Sp.tup l))
     |none=>none
     else none
   |none=>none
 |_,_=>none
theorem zgQ {f:CK->Option Sp}:∀{l:List CK} {ss:List Sp},allCk f l=some ss->ss.length=l.length/\∀(j:Nat) c,l[j]? = some c->∃s,ss[j]? = some s/\f c=some s
 |[],ss,h=>by cases h;exact⟨rfl,fun j c hj=>by simp at hj⟩
 | c :: r, ss, h => by
   simp only[allCk]at h
   split at h
   · rename_i s l h1 h2
     cases h
     obtain⟨e,k⟩:=zgQ h2
     refine⟨by simp[e],fun j c' hj=>?_⟩
     cases j with
     |zero=>simp at hj;subst hj;exact⟨s,rfl,h1⟩
     |succ j=>simpa using k j c' (by simpa using hj)
   ·cases h
theorem zkC:∀(ss:List Sp) (xs:List T),ss.any Sp.isPair=false->xs.length=ss.length->(∀(j:Nat) s x,ss[j]? = some s->xs[j]? = some x->∃v:s.ty.den,x=s.ty.enc v/\s.ok v) ->
 ∃v:(Sp.tup ss).ty.den,(Sp.tup ss).ok v/\(ss = []->(Sp.tup ss).ty.enc v = .list [])/\(2<=ss.length->(Sp.tup ss).ty.enc v = .list xs)/\(ss ≠ []->(Sp.tup ss).ty.encP v=xs)
 |[],xs,hp,hl,h=>⟨(),trivial,fun _=>rfl,fun e=>by simp at e,fun e=>absurd rfl e⟩
 | [s], xs, hp, hl, h => by
   obtain⟨x,rfl⟩:∃x,xs = [x]:=by
    match xs,hl with
    |[x],_=>exact⟨x,rfl⟩
   obtain⟨v,h1,h2⟩:=h 0 s x rfl rfl
   refine⟨v,h2,fun e=>by simp at e,fun e=>by simp at e,fun _=>?_⟩
   have:s.ty.isPair=false:=by
    simp only[List.any_cons,List.any_nil,Bool.or_false]at hp
    cases s<;>first|rfl|cases hp
   show s.ty.encP v = [x]
   rw[Ty.encP_one _ _ this,h1]
 | s :: t :: r, xs, hp, hl, h => by
   obtain⟨x,ys,rfl⟩:∃x ys,xs=x::ys:=by
    match xs,hl with
    |x::ys,_=>exact⟨x,ys,rfl⟩
   obtain⟨v,h1,h2⟩:=h 0 s x rfl rfl
   have hp2:(t::r).any Sp.isPair=false:=by
    rw[List.any_cons,Bool.or_eq_false_iff]at hp;exact hp.2
   obtain⟨w,h3,_,_,h5⟩:=zkC (t::r) ys hp2 (by simpa using hl) fun j s' x' hs hx=>h (j+1) s' x' (by simpa using hs) (by simpa using hx)
   have h6:=h5 (by simp)
   refine⟨(v,w),⟨h2,h3⟩,fun e=>(by simp at e),fun _=>?_,fun _=>?_⟩
   · show T.list (s.ty.enc v::(Sp.tup (t::r)).ty.encP w)=_
     rw[h6,<- h1]
   · show s.ty.enc v::(Sp.tup (t::r)).ty.encP w=_
     rw[h6,<- h1]
theorem zjX {s:Sp}:∀(rows:List T),(∀i,i<rows.length->∃v:s.ty.den,rows[i]? = some (s.ty.enc v)/\s.ok v)->∃l:List s.ty.den,rows=l.map s.ty.enc/\∀x∈l,s.ok x
 |[],h=>⟨[],rfl,by simp⟩
 | r :: rows, h => by
   obtain⟨v,h1,h2⟩:=h 0 (by simp)
   simp at h1
   obtain⟨l,h3,h4⟩:=zjX rows fun i hi=>by simpa using h (i+1) (by simpa using hi)
   refine⟨v::l,by simp[h1,h3],fun x hx=>?_⟩
   rcases List.mem_cons.1 hx with rfl|hx
   ·exact h2
   ·exact h4 x hx
theorem zha {tab : Tab} : ∀ {n : Nat} {ck : CK} {s : Sp} {d : T}, shOf tab n ck = some s -> WfD tab ck d -> ∃ v : s.ty.den, d = s.ty.enc v /\ s.ok v
 | n, .int k, s, d, hs, h => by
   cases n<;>(cases hs;cases h;rename_i hw;exact⟨_,rfl,hw⟩)
 | n, .bool, s, d, hs, h => by
   cases n<;>(cases hs;cases h;exact⟨_,rfl,trivial⟩)
 | n, .str, s, d, hs, h => by
   cases n<;>(cases hs;cases h;rename_i b hw;refine⟨(b.data.toList:List UInt8),?_,?_⟩<;>first|(simp only[Ty.enc_str];done)|(show b.data.toList.length<=_;rw[Array.length_toList];exact hw))
 |0,.sl et,s,d,hs,h=>by cases hs
 | n + 1, .sl et, s, d, hs, h => by
   simp only[shOf]at hs
   split at hs
   case h_2=>cases hs
   rename_i ti hti
   split at hs
   case isFalse=>cases hs
   rename_i hsz
   have hsz:ti.size=ti.cks.length:=by simpa using hsz
   split at hs
   case h_2=>cases hs
   rename_i ss hss
   split at hs
   ·cases hs
   rename_i hp
   have hp:ss.any Sp.isPair=false:=by simpa using hp
   cases hs
   cases h
   rename_i ti' rows hlen hwf hcell hti'
   rw[hti]at hti';cases hti'
   obtain⟨e1,e2⟩:=zgQ hss
   have hrow : ∀ i, i < rows.length -> ∃ v : (Sp.tup ss).ty.den, rows[i]? = some ((Sp.tup ss).ty.enc v) /\ (Sp.tup ss).ok v := by
    intro i hi
    have hc:∀(j:Nat) ck,ti.cks[j]? = some ck->∃sp,ss[j]? = some sp/\∃v:sp.ty.den,cellT ti.size rows i j=sp.ty.enc v/\sp.ok v:=by
     intro j ck hj
     obtain⟨sp,q1,q2⟩:=e2 j ck hj
     exact⟨sp,q1,zha q2 (hcell i j ck hi hj)⟩
    by_cases h1:ti.size=1
    · match ss,e1,hp,hc with
      | [sp], e1, hp, hc =>
        have hl1:0<ti.cks.length:=by omega
        obtain⟨sp',q1,v,q2,q3⟩:=hc 0 _ (List.getElem?_eq_getElem hl1)
        simp at q1;subst q1
        refine⟨v,?_,q3⟩
        unfold cellT at q2
        rw[if_pos h1,List.getD_eq_getElem?_getD,List.getElem?_eq_getElem hi]at q2
        rw[List.getElem?_eq_getElem hi]
        exact congrArg some q2
      |[],e1,hp,hc=>simp at e1;omega
      |_::_::_,e1,hp,hc=>simp at e1;omega
    · obtain⟨xs,r1,r2⟩:=hwf h1 i hi
      have hx:∀j,cellT ti.size rows i j=xs.getD j .hole:=by
       intro j
       unfold cellT
       rw[if_neg h1,List.getD_eq_getElem?_getD,r1];rfl
      obtain⟨v,v1,v2,v2',v3⟩:=zkC ss xs hp (by omega) fun j sp x hs hxj=>by
       have hj:j<ti.cks.length:=by rw[<- e1];rw[List.getElem?_eq_some_iff]at hs;exact hs.1
       obtain⟨sp',q1,v,q2,q3⟩:=hc j _ (List.getElem?_eq_getElem hj)
       rw[hs]at q1;cases q1
       rw[hx,List.getD_eq_getElem?_getD,hxj]at q2
       exact⟨v,q2,q3⟩
      refine⟨v,?_,v1⟩
      rw[r1]
      congr 1
      by_cases h0:ss.length=0
      · have e0:ss = []:=List.eq_nil_of_length_eq_zero h0
        have:xs = []:=List.eq_nil_of_length_eq_zero (by omega)
        rw[this];exact (v2 e0).symm
      ·exact (v2' (by omega)).symm
   obtain⟨l,h3,h4⟩:=zjX rows hrow
   refine⟨l,by rw[h3];rfl,?_,h4⟩
   show l.length<=_
   rw[h3,List.length_map]at hlen
   exact hlen
def okT:(shs:List Sp)->Tup (shs.map Sp.ty)->Prop
 |[],_=>True
 |[s],a=>s.ok a
 |s::t::r,(a:s.ty.den × Tup ((t::r).map Sp.ty))=>s.ok a.1/\okT (t::r) a.2
theorem zgw {tab:Tab}{n:Nat}:∀(ks:List CK) (shs:List Sp) (ds:List T),allCk (shOf tab n) ks=some shs->ds.length=ks.length->(∀(j:Nat) k d,ks[j]? = some k->ds[j]? = some d->WfD tab k d) ->
 ∃a:Tup (shs.map Sp.ty),ds=encs (shs.map Sp.ty) a/\okT shs a
 | [], shs, ds, hs, hl, h => by
   cases hs
   have:ds = []:=List.eq_nil_of_length_eq_zero hl
   subst this
   exact⟨(),rfl,trivial⟩
 |k::ks,shs,[],hs,hl,h=>by simp at hl
 | k :: ks, shs, d :: ds, hs, hl, h => by
   simp only[allCk]at hs
   split at hs
   case h_2=>cases hs
   rename_i s l h1 h2
   cases hs
   obtain⟨v,v1,v2⟩:=zha h1 (h 0 k d rfl rfl)
   obtain⟨a,a1,a2⟩:=zgw ks l ds h2 (by simpa using hl) fun j k' d' hk hd=>h (j+1) k' d' (by simpa using hk) (by simpa using hd)
   match l,a,a1,a2 with
   |[],a,a1,a2=>exact⟨v,by rw[v1,a1];rfl,v2⟩
   |t::r,a,a1,a2=>exact⟨(v,a),by rw[v1,a1];rfl,v2,a2⟩
theorem zkS {tab:Tab}{n i:Nat}{ks:List CK}{shs:List Sp}{fs:List Fn}{ps:List PI}{f:Tup (shs.map Sp.ty)->Option (Tup [.bool])}(htf:∀j F,fs[j]? = some F->TfOk (sysOf ps) j F)
 (hF:fs[i]? = some ⟨shs.map Sp.ty,[.bool],f⟩) (hs:allCk (shOf tab n) ks=some shs) (h:∀a,okT shs a->f a=some true):∀ds,WfDs tab ks ds->CallI (sysOf ps) i ds [.bool true]:=by
 intro ds hd
 obtain⟨a,a1,a2⟩:=zgw ks shs ds hs hd.1 hd.2
 have:=htf i _ hF a true (h a a2)
 rw[a1];exact this
theorem zlv {l:List Int}(h:(Sp.list (.int .u8)).ok l):∀b∈l,0<=b/\b<=255:=by
 intro b hb
 have:=h.2 b hb
 have:(Lit.int .u8 b).wf=true:=this
 simp only[Lit.wf,Bool.and_eq_true,decide_eq_true_eq]at this
 exact this
end Gp
