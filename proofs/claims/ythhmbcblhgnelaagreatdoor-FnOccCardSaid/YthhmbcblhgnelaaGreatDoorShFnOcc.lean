/- Sh: typed functions of Go functions and what is shown of them: the part that this statement needs. -/
import Derived.Test.YthhmbcblhgnelaaGreatDoorShFnOcc0
import Derived.IntWalk
set_option linter.unusedVariables false
set_option linter.unusedSimpArgs false
namespace Sh
open Go
theorem zgF {e:Int}{R:List Rc}{X:List Tn}{O:List Int}(h:WS R X){t:Nat}(ht:t<X.length)(hfew:R.length+(X.getD t T0).2.2.2.1.length<=40) :
 spec_l5Lock e R X O ((t:Int)+1)=some ((lkP R X t ((t:Int)+1)).1,e,(lkP R X t ((t:Int)+1)).2.1,(lkP R X t ((t:Int)+1)).2.2):=by
 obtain⟨w1,w2,w3⟩:=h.w ht
 have t1:(t:Int)<X.length:=by omega
 have t0:(0:Int)<=(t:Int):=by omega
 have hx:=h.xl
 have ti:i64 ((t:Int)+1-1)=(t:Int):=by rw[zae (by omega) (by omega)];omega
 unfold spec_l5Lock lkP
 obtain⟨T,hT⟩:∃T,X.getD t T0=T:=⟨_,rfl⟩
 have hT':X.getD t (0,(0,([],([],(0,(0,false))))))=T:=hT
 obtain⟨id,hid⟩:∃id,(t:Int)+1=id:=⟨_,rfl⟩
 rw[hT]at w1 w2 w3 hfew
 rw[hid]at ti ⊢
 simp only[ti,hT',hT,t1,t0,decide_true,Bool.and_self,zaa,Int.toNat_natCast]
 refine zac (zau (fun k:Nat=>(T.2.2.1,T.2.2.2.1,lack R T.2.2.2.1 k,(k:Int))) T.2.2.2.1.length (fun k=>!decide (ownR (recOr R (T.2.2.2.1.getD k C0).1)=0)) (.inr (X,e,R,2)) (.inl (T.2.2.1,T.2.2.2.1,lack R T.2.2.2.1 T.2.2.2.1.length)) rfl (fun k hk=>?_) (by simp)) ?_
 · have k1:(k:Int)<T.2.2.2.1.length:=by omega
   have k0:(0:Int)<=(k:Int):=by omega
   have ki:i64 ((k:Int)+1)=((k+1:Nat):Int):=by rw[zae (by omega) (by omega)];rfl
   have hk':T.2.2.2.1.getD k ([],[])=T.2.2.2.1.getD k C0:=rfl
   have hf:=zd0 h.rk (by have:=h.rl;omega) e X O (T.2.2.2.1.getD k C0).1
   have hla:=zeu R T.2.2.2.1 k
   have el:lack R T.2.2.2.1 (k+1)=if hasG kR R0 R (T.2.2.2.1.getD k C0).1 then lack R T.2.2.2.1 k else lack R T.2.2.2.1 k+1:=rfl
   have il:i64 (lack R T.2.2.2.1 k+1)=lack R T.2.2.2.1 k+1:=zae (by omega) (by omega)
   simp only[k1,k0,decide_true,Bool.and_self,zaa,if_true,Int.toNat_natCast,ki,hk',hf,bind_some,el]
   by_cases q:ownR (recOr R (T.2.2.2.1.getD k C0).1)=0
   · have q':(recOr R (T.2.2.2.1.getD k C0).1).2.2.2.2.2=0:=q
     simp only[q',q,decide_true,Bool.not_true,Bool.false_eq_true,if_false]
     by_cases m3:hasG kR R0 R (T.2.2.2.1.getD k C0).1
     ·rw[decide_eq_true m3,if_pos m3];rfl
     ·rw[decide_eq_false m3,if_neg m3];simp only[Bool.not_false,if_true,il,bind_some]
   · have q':¬(recOr R (T.2.2.2.1.getD k C0).1).2.2.2.2.2=0:=q
     simp only[q',q,decide_false,Bool.not_false,if_true]
 · cases hb:(List.range T.2.2.2.1.length).any (fun k=>!decide (ownR (recOr R (T.2.2.2.1.getD k C0).1)=0)) with
   |true=>simp only[if_true,zec]
   | false =>
     have hla:=zeu R T.2.2.2.1 T.2.2.2.1.length
     have il:i64 ((R.length:Int)+lack R T.2.2.2.1 T.2.2.2.1.length)=(R.length:Int)+lack R T.2.2.2.1 T.2.2.2.1.length:=zae (by omega) (by omega)
     simp only[Bool.false_eq_true,if_false,zaw,il,zbe (show ¬(40:Int)<(R.length:Int)+lack R T.2.2.2.1 T.2.2.2.1.length by omega)]
     refine zac (a:=(e,lkR id R T.2.2.2.1)) (zac (zah (fun k:Nat=>(e,lkR id R (T.2.2.2.1.take k),T.2.2.2.1,(k:Int))) T.2.2.2.1.length (e,lkR id R T.2.2.2.1) (by simp[lkR]) (fun k hk=>?_) (by simp)) rfl) rfl
     have k1:(k:Int)<T.2.2.2.1.length:=by omega
     have k0:(0:Int)<=(k:Int):=by omega
     have ki:i64 ((k:Int)+1)=((k+1:Nat):Int):=by rw[zae (by omega) (by omega)];rfl
     have hk':T.2.2.2.1.getD k ([],[])=T.2.2.2.1.getD k C0:=rfl
     have hskk:SK kR (lkR id R (T.2.2.2.1.take k)):=zjG h.rk _
     have hlen:=zhB (id:=id) (R:=R) T.2.2.2.1 k (by omega)
     rw[zef id R T.2.2.2.1 hk]
     obtain⟨S,hS⟩:∃S,lkR id R (T.2.2.2.1.take k)=S:=⟨_,rfl⟩
     obtain⟨w,hw⟩:∃w,T.2.2.2.1.getD k C0=w:=⟨_,rfl⟩
     rw[hS]at hskk hlen
     have hf:=zd0 hskk (by omega) e X O w.1
     have hp:=zkA (R:=S) (by omega) e X O (setOwn (recOr S w.1) id true)
     rw[hS,hw]
     simp only[k1,k0,decide_true,Bool.and_self,zaa,if_true,Int.toNat_natCast,ki,hk',hw,hf,hp,bind_some]
     rfl
abbrev Td:=Int × Int × Bool
abbrev D0:Td:=(0,(0,false))
def nxt (e:Int)(l:List Td):Nat->Int
 |0=>0
 |k+1=>if (l.getD k D0).1=e then max (nxt e l k) ((l.getD k D0).2.1+1) else nxt e l k
theorem zgu {e:Int}{l:List Td}(h:∀t∈l,isTd t.1 t.2.1=true):∀k,k<=l.length->0<=nxt e l k/\nxt e l k<=16777216
 |0,_=>⟨Int.le_refl _,by show (0:Int)<=_;omega⟩
 | k + 1, hk => by
   have ih:=zgu (e:=e) h k (by omega)
   have ht:=h _ (zaf (show k<l.length by omega) D0)
   simp only[isTd,Bool.and_eq_true,decide_eq_true_eq]at ht
   have en:nxt e l (k+1)=if (l.getD k D0).1=e then max (nxt e l k) ((l.getD k D0).2.1+1) else nxt e l k:=rfl
   rw[en];split<;>omega
def TG (e:Int)(l:List Td):Prop:=∀t∈l,isTd t.1 t.2.1=true/\t.1<=e
theorem zeI {e:Int}{l:List Td}(h:TG e l)(hl:l.length<=60)(he:0<=e/\e<=1048575):impl_NextTid l e=some (if 16777215<nxt e l l.length then (0,0,false,false) else (e,nxt e l l.length,false,true)):=by
 unfold impl_NextTid
 dsimp only
 have hin:impl_in e 0 1048575=some true:=by rw[zaH];simp[he.1,he.2]
 simp only[zbe (show ¬(60:Int)<(l.length:Int) by omega),Bool.not_false,if_true,hin,bind_some,Bool.false_eq_true,if_false,Bool.not_true]
 refine zac (zau (fun k:Nat=>(nxt e l k,(k:Int))) l.length (fun _=>false) (.inr (0,0,false,false)) (.inl (nxt e l l.length)) rfl (fun k hk=>?_) (by simp)) ?_
 · have k1:(k:Int)<l.length:=by omega
   have k0:(0:Int)<=(k:Int):=by omega
   have ki:i64 ((k:Int)+1)=((k+1:Nat):Int):=by rw[zae (by omega) (by omega)];rfl
   obtain⟨g1,g2⟩:=h _ (zaf hk D0)
   have g3:=g1
   simp only[isTd,Bool.and_eq_true,decide_eq_true_eq]at g3
   have ii:i64 ((l.getD k D0).2.1+1)=(l.getD k D0).2.1+1:=zae (by omega) (by omega)
   have en:nxt e l (k+1)=if (l.getD k D0).1=e then max (nxt e l k) ((l.getD k D0).2.1+1) else nxt e l k:=rfl
   have hD:l.getD k (0,(0,false))=l.getD k D0:=rfl
   simp only[k1,k0,decide_true,Bool.and_self,zaa,if_true,Int.toNat_natCast,ki,hD,zbi,g1,bind_some,Bool.not_true,Bool.false_eq_true,if_false,zbe (show ¬e<(l.getD k D0).1 by omega),en,ii]
   by_cases c:(l.getD k D0).1=e
   ·simp only[c,decide_true,if_true,bind_some]
   ·simp only[c,decide_false,Bool.false_eq_true,if_false,bind_some]
 · rw[if_neg (by rw[zcR];rintro⟨k,_,hk⟩;cases hk)]
   simp only[zaw]
   by_cases c:(16777215:Int)<nxt e l l.length
   ·simp only[c,decide_true,if_true]
   ·simp only[c,decide_false,Bool.false_eq_true,if_false]
theorem zfk {e:Int}{l:List Td}(h:TG e l)(hl:l.length<=60):spec_l1Next l e=some (e,nxt e l l.length,false,!decide (16777215<nxt e l l.length)):=by
 unfold spec_l1Next
 refine zac (a:=(e,nxt e l l.length)) (zac (zah (fun k:Nat=>(e,nxt e l k,(k:Int))) l.length (e,nxt e l l.length) rfl (fun k hk=>?_) (by simp)) rfl) ?_
 · have k1:(k:Int)<l.length:=by omega
   have k0:(0:Int)<=(k:Int):=by omega
   have ki:i64 ((k:Int)+1)=((k+1:Nat):Int):=by rw[zae (by omega) (by omega)];rfl
   obtain⟨g1,g2⟩:=h _ (zaf hk D0)
   have g3:=g1
   simp only[isTd,Bool.and_eq_true,decide_eq_true_eq]at g3
   have ii:i64 ((l.getD k D0).2.1+1)=(l.getD k D0).2.1+1:=zae (by omega) (by omega)
   have en:nxt e l (k+1)=if (l.getD k D0).1=e then max (nxt e l k) ((l.getD k D0).2.1+1) else nxt e l k:=rfl
   have hD:l.getD k (0,(0,false))=l.getD k D0:=rfl
   obtain⟨r,q1,q2⟩:=zdo (l.getD k D0).1 (l.getD k D0).2.1 (l.getD k D0).2.2 e (nxt e l k) false
   have q3:decide (0<=r) = !tlt (l.getD k D0).1 (l.getD k D0).2.1 e (nxt e l k):=by
    rw[<- q2,Bool.eq_iff_iff];simp
   simp only[k1,k0,decide_true,Bool.and_self,zaa,if_true,Int.toNat_natCast,ki,hD,q1,bind_some,q3,en,ii]
   unfold tlt
   by_cases c:(l.getD k D0).1=e
   · by_cases d:(l.getD k D0).2.1<nxt e l k
     · have hm:max (nxt e l k) ((l.getD k D0).2.1+1)=nxt e l k:=by omega
       simp only[c,d,hm,Int.lt_irrefl,decide_true,decide_false,Bool.true_and,Bool.false_or,Bool.not_true,Bool.false_eq_true,if_false,if_true,bind_some]
     · have hm:max (nxt e l k) ((l.getD k D0).2.1+1)=(l.getD k D0).2.1+1:=by omega
       simp only[c,d,hm,Int.lt_irrefl,decide_true,decide_false,Bool.true_and,Bool.false_or,Bool.not_false,if_true,bind_some]
   · have hlt:(l.getD k D0).1<e:=by omega
     simp only[c,hlt,decide_true,decide_false,Bool.true_or,Bool.not_true,Bool.false_eq_true,if_false,bind_some]
 · have:decide (nxt e l l.length<=16777215) = !decide (16777215<nxt e l l.length):=by rw[Bool.eq_iff_iff];simp
   simp only[decide_true,if_true,this]
theorem zh4 (a b:Int)(u:Bool)(c d:Int)(v:Bool):∃r,impl_compareTid a b u c d v=some r/\decide (r=0)=(decide (a=c)&&decide (b=d)):=by
 unfold impl_compareTid
 simp only[zfm,bind_some,zlb]
 refine⟨_,rfl,?_⟩
 by_cases h1:a<c
 ·rw[Bool.eq_iff_iff];simp[h1];omega
 · by_cases h2:c<a
   ·rw[Bool.eq_iff_iff];simp[h1,h2];omega
   · have:a=c:=by omega
     subst this
     by_cases h3:b<d
     ·rw[Bool.eq_iff_iff];simp[h3];omega
     · by_cases h4:d<b
       ·rw[Bool.eq_iff_iff];simp[h3,h4];omega
       ·rw[Bool.eq_iff_iff];simp[h3,h4];omega
def tdL (l:Lk):Td:=(l.2.2.1,l.2.2.2.1,l.2.2.2.2)
def tdR (r:Rc):Td:=(r.2.2.1,r.2.2.2.1,r.2.2.2.2.1)
def bdL (R:List Rc)(id:Int)(l:Lk):Bool:=!(decide ((recOr R l.1).2.2.1=l.2.2.1)&&decide ((recOr R l.1).2.2.2.1=l.2.2.2.1))||(!decide (ownR (recOr R l.1)=0) && !decide (ownR (recOr R l.1)=id))
def tds (R:List Rc)(L:List Lk)(W:List Cl):List Td:=L.map tdL++W.map fun w=>tdR (recOr R w.1)
def ckP (e:Int)(R:List Rc)(X:List Tn)(O:List Int)(t:Nat)(id:Int):List Rc × List Tn × List Int × Int :=
 if (List.range (X.getD t T0).2.2.1.length).any (fun i=>bdL R id ((X.getD t T0).2.2.1.getD i L0)) then (lvP R id,X.set t (setState (X.getD t T0) 5),O,3)
 else if 16777215<nxt e (tds R (X.getD t T0).2.2.1 (X.getD t T0).2.2.2.1) (tds R (X.getD t T0).2.2.1 (X.getD t T0).2.2.2.1).length then (R,X,O,4)
 else (R,X.set t ((X.getD t T0).1,3,(X.getD t T0).2.2.1,(X.getD t T0).2.2.2.1,e,nxt e (tds R (X.getD t T0).2.2.1 (X.getD t T0).2.2.2.1) (tds R (X.getD t T0).2.2.1 (X.getD t T0).2.2.2.1).length,false),O ++ [id],0)
def RG (e:Int)(R:List Rc):Prop:=∀r∈R,isTd r.2.2.1 r.2.2.2.1=true/\r.2.2.1<=e
theorem RG.rec{e:Int}{R:List Rc}(h:RG e R)(hk:SK kR R)(he:0<=e)(k:Tx):isTd (recOr R k).2.2.1 (recOr R k).2.2.2.1=true/\(recOr R k).2.2.1<=e:=by
 rcases recOr_cases hk k with⟨h1,_,_⟩|⟨_,h2,_⟩
 ·exact h _ h1
 ·rw[h2];exact⟨rfl,he⟩
theorem zga {e:Int}{R:List Rc}(h:RG e R)(hk:SK kR R)(he:0<=e){id:Int}{L:List Lk}(hb:(List.range L.length).any (fun i=>bdL R id (L.getD i L0))=false)(W:List Cl):TG e (tds R L W):=by
 intro t ht
 rcases List.mem_append.1 ht with ht|ht
 · obtain⟨l,hl,rfl⟩:=List.mem_map.1 ht
   obtain⟨i,hi,rfl⟩:=List.mem_iff_getElem.1 hl
   have:=zal.1 hb i hi
   rw[List.getD_eq_getElem?_getD,List.getElem?_eq_getElem hi]at this
   simp only[Option.getD_some,bdL,Bool.or_eq_false_iff,Bool.not_eq_false',Bool.and_eq_true,decide_eq_true_eq]at this
   have hr:=h.rec hk he L[i].1
   rw[this.1.1,this.1.2]at hr
   exact hr
 · obtain⟨w,hw,rfl⟩:=List.mem_map.1 ht
   exact h.rec hk he w.1
theorem zfJ {e : Int} {R : List Rc} {X : List Tn} {O : List Int} (h : WS R X) (hr : RG e R) (he : 0 <= e /\ e <= 1048575) (hO : O.length <= 1000) {t : Nat} (ht : t < X.length)
 (hfew:(X.getD t T0).2.2.1.length+(X.getD t T0).2.2.2.1.length<=60) (hw:∀w∈(X.getD t T0).2.2.2.1,hasG kR R0 R w.1) :
 impl_Store_check e R X O (t:Int)=some ((ckP e R X O t (X.getD t T0).1).1,(ckP e R X O t (X.getD t T0).1).2.1,e,(ckP e R X O t (X.getD t T0).1).2.2.1,(ckP e R X O t (X.getD t T0).1).2.2.2):=by
 obtain⟨w1,w2,w3⟩:=h.w ht
 have hlv:=zdb (e:=e) (R:=R) (X:=X) (O:=O) (by have:=h.rl;omega) ht
 have t1:(t:Int)<X.length:=by omega
 have t0:(0:Int)<=(t:Int):=by omega
 unfold impl_Store_check ckP
 obtain⟨T,hT⟩:∃T,X.getD t T0=T:=⟨_,rfl⟩
 have hT':X.getD t (0,(0,([],([],(0,(0,false))))))=T:=hT
 rw[hT]at w1 w2 w3 hfew hw hlv
 simp only[hT',hT,t1,t0,decide_true,Bool.and_self,Bool.or_true,zaa,Int.toNat_natCast]
 refine zac (zau (fun k:Nat=>((T.2.2.1.take k).map tdL,T.2.2.1,(k:Int))) T.2.2.1.length (fun k=>bdL R T.1 (T.2.2.1.getD k L0)) (.inr (lvP R T.1,X.set t (setState T 5),e,O,3)) (.inl (T.2.2.1.map tdL)) (by simp) (fun k hk=>?_) (by simp)) ?_
 · have k1:(k:Int)<T.2.2.1.length:=by omega
   have k0:(0:Int)<=(k:Int):=by omega
   have ki:i64 ((k:Int)+1)=((k+1:Nat):Int):=by rw[zae (by omega) (by omega)];rfl
   rw[zaq T.2.2.1 L0 hk,List.map_append]
   obtain⟨l,hl⟩:∃l,T.2.2.1.getD k L0=l:=⟨_,rfl⟩
   have hl':T.2.2.1.getD k ([],([],(0,(0,false))))=l:=hl
   have hat:=zhv h.rk (by have:=h.rl;omega) e X O l.1
   simp only[hl,hl',k1,k0,decide_true,Bool.and_self,zaa,if_true,Int.toNat_natCast,ki,hat,bind_some]
   have hlen:(((T.2.2.1.take k).map tdL ++ [tdL l]).length:Int)<=5864062014805:=by
    simp only[List.length_append,List.length_map,List.length_take,List.length_cons,List.length_nil];omega
   have e1:(if decide (hasG kR R0 R l.1)=true then chk (decide ((0:Int)<=(lbS kR R l.1:Int))&&decide ((lbS kR R l.1:Int)<(R.length:Int))) (some ((R.getD (lbS kR R l.1) ([],([],(0,(0,(false,0)))))).1,(R.getD (lbS kR R l.1) ([],([],(0,(0,(false,0)))))).2.1,(R.getD (lbS kR R l.1) ([],([],(0,(0,(false,0)))))).2.2.1,(R.getD (lbS kR R l.1) ([],([],(0,(0,(false,0)))))).2.2.2.1,(R.getD (lbS kR R l.1) ([],([],(0,(0,(false,0)))))).2.2.2.2.1,(R.getD (lbS kR R l.1) ([],([],(0,(0,(false,0)))))).2.2.2.2.2,T.2.2.1))
    else some ([],[],0,0,false,0,T.2.2.1):Option (Tx × Tx × Int × Int × Bool × Int × List Lk)) =
    some ((if hasG kR R0 R l.1 then l.1 else []),(recOr R l.1).2.1,(recOr R l.1).2.2.1,(recOr R l.1).2.2.2.1,(recOr R l.1).2.2.2.2.1,(recOr R l.1).2.2.2.2.2,T.2.2.1):=by
    rcases recOr_cases h.rk l.1 with⟨m1,m2,m3⟩|⟨m1,m2,m3⟩
    · have hR:R.getD (lbS kR R l.1) ([],([],(0,(0,(false,0)))))=recOr R l.1:=by unfold recOr;rw[if_pos m3]
      have m31:=m3.1
      have m2':(recOr R l.1).1=l.1:=m2
      rw[decide_eq_true m3,if_pos rfl,if_pos m3,hR,m2',zak (show (0:Int)<=(lbS kR R l.1:Int) by omega),zak (show (lbS kR R l.1:Int)<(R.length:Int) by omega)]
      rfl
    ·rw[decide_eq_false m3,if_neg (by simp),if_neg m3,m2]
   obtain⟨r,q1,q2⟩:=zh4 (recOr R l.1).2.2.1 (recOr R l.1).2.2.2.1 (recOr R l.1).2.2.2.2.1 l.2.2.1 l.2.2.2.1 l.2.2.2.2
   refine zac e1 ?_
   simp only[q1,bind_some,q2,hlv]
   have hb:bdL R T.1 l=(if (!(decide ((recOr R l.1).2.2.1=l.2.2.1)&&decide ((recOr R l.1).2.2.2.1=l.2.2.2.1)))=true then true else (if (!decide ((recOr R l.1).2.2.2.2.2=0))=true then (!decide ((recOr R l.1).2.2.2.2.2=T.1)) else false)):=by
    unfold bdL
    rw[zdB,zgq]
   rw[<- hb]
   cases bdL R T.1 l with
   |true=>simp only[if_true]
   | false =>
     simp only[Bool.false_eq_true,if_false]
     have:((l.2.2.1,(l.2.2.2.1,l.2.2.2.2))::([]:List Td)) = [tdL l]:=rfl
     rw[this,zaz hlen]
     rfl
 · cases hbb:(List.range T.2.2.1.length).any (fun k=>bdL R T.1 (T.2.2.1.getD k L0)) with
   |true=>simp only[if_true,zec]
   | false =>
     have htg:=zga hr h.rk he.1 hbb T.2.2.2.1
     have hlt:(tds R T.2.2.1 T.2.2.2.1).length<=60:=by unfold tds;rw[List.length_append,List.length_map,List.length_map];exact hfew
     have hnx:=zeI htg hlt he
     simp only[Bool.false_eq_true,if_false,zaw]
     refine zac (a:=tds R T.2.2.1 T.2.2.2.1) (zac (zah (fun k:Nat=>(T.2.2.1.map tdL++(T.2.2.2.1.take k).map (fun w=>tdR (recOr R w.1)),T.2.2.2.1,(k:Int))) T.2.2.2.1.length (tds R T.2.2.1 T.2.2.2.1) (by simp) (fun k hk=>?_) (by simp[tds])) rfl) ?_
     · have k1:(k:Int)<T.2.2.2.1.length:=by omega
       have k0:(0:Int)<=(k:Int):=by omega
       have ki:i64 ((k:Int)+1)=((k+1:Nat):Int):=by rw[zae (by omega) (by omega)];rfl
       have hmem:=hw _ (zaf hk C0)
       rw[zaq T.2.2.2.1 C0 hk,List.map_append,<- List.append_assoc]
       obtain⟨w,hww⟩:∃w,T.2.2.2.1.getD k C0=w:=⟨_,rfl⟩
       have hw':T.2.2.2.1.getD k ([],[])=w:=hww
       rw[hww]at hmem
       have hat:=zhv h.rk (by have:=h.rl;omega) e X O w.1
       have hR:R.getD (lbS kR R w.1) ([],([],(0,(0,(false,0)))))=recOr R w.1:=by unfold recOr;rw[if_pos hmem]
       have m31:=hmem.1
       have hlen:((T.2.2.1.map tdL++(T.2.2.2.1.take k).map (fun w=>tdR (recOr R w.1)) ++ [tdR (recOr R w.1)]).length:Int)<=5864062014805:=by
        simp only[List.length_append,List.length_map,List.length_take,List.length_cons,List.length_nil];omega
       simp only[hww,hw',k1,k0,decide_true,Bool.and_self,zaa,if_true,Int.toNat_natCast,ki,hat,bind_some,zak (show (0:Int)<=(lbS kR R w.1:Int) by omega),zak (show (lbS kR R w.1:Int)<(R.length:Int) by omega),hR]
       have:(((recOr R w.1).2.2.1,((recOr R w.1).2.2.2.1,(recOr R w.1).2.2.2.2.1))::([]:List Td)) = [tdR (recOr R w.1)]:=rfl
       rw[this,zaz hlen]
       rfl
     · rw[hnx]
       simp only[bind_some]
       by_cases c:(16777215:Int)<nxt e (tds R T.2.2.1 T.2.2.2.1) (tds R T.2.2.1 T.2.2.2.1).length
       ·simp only[c,if_true,Bool.not_false]
       · have hset:∀v:Tn,(X.set t v).getD t (0,(0,([],([],(0,(0,false))))))=v:=fun v=>zbx ht v _
         simp only[c,if_false,Bool.not_true,Bool.false_eq_true,List.length_set,t1,t0,decide_true,Bool.and_self,zaa,hset,List.set_set]
         rw[zaz (by simp only[List.length_append,List.length_cons,List.length_nil];omega)]
theorem zfV {e : Int} {R : List Rc} {X : List Tn} {O : List Int} (h : WS R X) (hr : RG e R) (he : 0 <= e /\ e <= 1048575) (hO : O.length <= 1000) {t : Nat} (ht : t < X.length)
 (hfew:(X.getD t T0).2.2.1.length+(X.getD t T0).2.2.2.1.length<=60) (hlk:∀l∈(X.getD t T0).2.2.1,l.2.2.2.2=false) :
 spec_l5Check e R X O ((t:Int)+1)=some ((ckP e R X O t ((t:Int)+1)).1,(ckP e R X O t ((t:Int)+1)).2.1,e,(R.length:Int),(X.length:Int),(ckP e R X O t ((t:Int)+1)).2.2.1,(ckP e R X O t ((t:Int)+1)).2.2.2):=by
 obtain⟨w1,w2,w3⟩:=h.w ht
 have hx:=h.xl
 have hlv:=zde (e:=e) (R:=R) (X:=X) (O:=O) (by have:=h.rl;omega) ht (by omega)
 have t1:(t:Int)<X.length:=by omega
 have t0:(0:Int)<=(t:Int):=by omega
 have ti:i64 ((t:Int)+1-1)=(t:Int):=by rw[zae (by omega) (by omega)];omega
 unfold spec_l5Check ckP
 obtain⟨T,hT⟩:∃T,X.getD t T0=T:=⟨_,rfl⟩
 have hT':X.getD t (0,(0,([],([],(0,(0,false))))))=T:=hT
 rw[hT]at w1 w2 w3 hfew hlv hlk
 obtain⟨id,hid⟩:∃id,(t:Int)+1=id:=⟨_,rfl⟩
 rw[hid]at ti hlv ⊢
 simp only[ti,hT',hT,t1,t0,decide_true,Bool.and_self,Bool.or_true,zaa,Int.toNat_natCast]
 refine zac (zau (fun k:Nat=>(T.2.2.1,T.2.2.2.1,(T.2.2.1.take k).map tdL,(k:Int))) T.2.2.1.length (fun k=>bdL R id (T.2.2.1.getD k L0)) (.inr (lvP R id,X.set t (setState T 5),e,(R.length:Int),(X.length:Int),O,3)) (.inl (T.2.2.1,T.2.2.2.1,T.2.2.1.map tdL)) (by simp) (fun k hk=>?_) (by simp)) ?_
 · have k1:(k:Int)<T.2.2.1.length:=by omega
   have k0:(0:Int)<=(k:Int):=by omega
   have ki:i64 ((k:Int)+1)=((k+1:Nat):Int):=by rw[zae (by omega) (by omega)];rfl
   have hmem:=hlk _ (zaf hk L0)
   rw[zaq T.2.2.1 L0 hk,List.map_append]
   obtain⟨l,hl⟩:∃l,T.2.2.1.getD k L0=l:=⟨_,rfl⟩
   have hl':T.2.2.1.getD k ([],([],(0,(0,false))))=l:=hl
   rw[hl]at hmem
   have hf:=zd0 h.rk (by have:=h.rl;omega) e X O l.1
   simp only[hl,hl',k1,k0,decide_true,Bool.and_self,zaa,if_true,Int.toNat_natCast,ki,hf,bind_some,spec_l5Plain,hlv]
   have hlen:(((T.2.2.1.take k).map tdL ++ [tdL l]).length:Int)<=5864062014805:=by
    simp only[List.length_append,List.length_map,List.length_take,List.length_cons,List.length_nil];omega
   have hb:bdL R id l=(if (!((decide ((recOr R l.1).2.2.1=l.2.2.1))&&((decide ((recOr R l.1).2.2.2.1=l.2.2.2.1))&&(false==l.2.2.2.2))))=true then true else (if (!decide ((recOr R l.1).2.2.2.2.2=0))=true then (!decide ((recOr R l.1).2.2.2.2.2=id)) else false)):=by
    unfold bdL
    rw[zdB,zgq,hmem]
    simp
   rw[<- hb]
   cases bdL R id l with
   |true=>simp only[if_true]
   | false =>
     simp only[Bool.false_eq_true,if_false]
     have:((l.2.2.1,(l.2.2.2.1,l.2.2.2.2))::([]:List Td)) = [tdL l]:=rfl
     rw[this,zaz hlen]
     rfl
 · cases hbb:(List.range T.2.2.1.length).any (fun k=>bdL R id (T.2.2.1.getD k L0)) with
   |true=>simp only[if_true,zec]
   | false =>
     have htg:=zga hr h.rk he.1 hbb T.2.2.2.1
     have hlt:(tds R T.2.2.1 T.2.2.2.1).length<=60:=by unfold tds;rw[List.length_append,List.length_map,List.length_map];exact hfew
     have hnx:=zfk htg hlt
     simp only[Bool.false_eq_true,if_false,zaw]
     refine zac (a:=tds R T.2.2.1 T.2.2.2.1) (zac (zah (fun k:Nat=>(T.2.2.1.map tdL++(T.2.2.2.1.take k).map (fun w=>tdR (recOr R w.1)),T.2.2.2.1,(k:Int))) T.2.2.2.1.length (tds R T.2.2.1 T.2.2.2.1) (by simp) (fun k hk=>?_) (by simp[tds])) rfl) ?_
     · have k1:(k:Int)<T.2.2.2.1.length:=by omega
       have k0:(0:Int)<=(k:Int):=by omega
       have ki:i64 ((k:Int)+1)=((k+1:Nat):Int):=by rw[zae (by omega) (by omega)];rfl
       rw[zaq T.2.2.2.1 C0 hk,List.map_append,<- List.append_assoc]
       obtain⟨w,hww⟩:∃w,T.2.2.2.1.getD k C0=w:=⟨_,rfl⟩
       have hw':T.2.2.2.1.getD k ([],[])=w:=hww
       have hf:=zd0 h.rk (by have:=h.rl;omega) e X O w.1
       have hlen:((T.2.2.1.map tdL++(T.2.2.2.1.take k).map (fun w=>tdR (recOr R w.1)) ++ [tdR (recOr R w.1)]).length:Int)<=5864062014805:=by
        simp only[List.length_append,List.length_map,List.length_take,List.length_cons,List.length_nil];omega
       simp only[hww,hw',k1,k0,decide_true,Bool.and_self,zaa,if_true,Int.toNat_natCast,ki,hf,bind_some]
       have:(((recOr R w.1).2.2.1,((recOr R w.1).2.2.2.1,(recOr R w.1).2.2.2.2.1))::([]:List Td)) = [tdR (recOr R w.1)]:=rfl
       rw[this,zaz hlen]
       rfl
     · rw[hnx]
       simp only[bind_some]
       by_cases c:(16777215:Int)<nxt e (tds R T.2.2.1 T.2.2.2.1) (tds R T.2.2.1 T.2.2.2.1).length
       ·simp only[c,decide_true,if_true,Bool.not_true,Bool.not_false]
       · have hset:∀v:Tn,(X.set t v).getD t (0,(0,([],([],(0,(0,false))))))=v:=fun v=>zbx ht v _
         simp only[c,decide_false,if_false,Bool.not_true,Bool.not_false,Bool.false_eq_true,List.length_set,t1,t0,decide_true,Bool.and_self,zaa,hset,List.set_set]
         rw[zaz (by simp only[List.length_append,List.length_cons,List.length_nil];omega)]
def inStep (T:Tn)(R:List Rc)(w:Cl):List Rc:=putG kR (w.1,w.2,T.2.2.2.2.1,T.2.2.2.2.2.1,T.2.2.2.2.2.2,0) R
def inR (T:Tn)(R:List Rc)(W:List Cl):List Rc:=W.foldl (inStep T) R
theorem zcJ (T:Tn)(R:List Rc)(W:List Cl){k:Nat}(hk:k<W.length):inR T R (W.take (k+1))=inStep T (inR T R (W.take k)) (W.getD k C0):=by
 rw[zaq W C0 hk];unfold inR;rw[List.foldl_append];rfl
theorem zjD {T:Tn}{R:List Rc}(h:SK kR R):∀W:List Cl,SK kR (inR T R W)
 | W => by
   have:∀k,k<=W.length->SK kR (inR T R (W.take k)):=by
    intro k
    induction k with
    |zero=>intro _;simpa[inR]using h
    |succ k ih=>intro hk;rw[zcJ T R W (by omega)];exact zcE (ih (by omega))
   have:=this W.length (Nat.le_refl _)
   rwa[List.take_length]at this
theorem zht {T:Tn}{R:List Rc}(W:List Cl):∀k,k<=W.length->(inR T R (W.take k)).length<=R.length+k
 |0,_=>by simp[inR]
 | k + 1, hk => by
   rw[zcJ T R W (by omega)]
   have:=zht (T:=T) (R:=R) W k (by omega)
   have:=zei (key:=kR) ((W.getD k C0).1,(W.getD k C0).2,T.2.2.2.2.1,T.2.2.2.2.2.1,T.2.2.2.2.2.2,0) (inR T R (W.take k))
   unfold inStep;omega
theorem zlf {T:Tn}{R:List Rc}(h:SK kR R){k:Tx}(hh:hasG kR R0 R k):∀W:List Cl,hasG kR R0 (inR T R W) k
 | W => by
   have:∀n,n<=W.length->hasG kR R0 (inR T R (W.take n)) k:=by
    intro n
    induction n with
    |zero=>intro _;simpa[inR]using hh
    | succ n ih =>
      intro hn
      have hs:SK kR (inR T R (W.take n)):=zjD h _
      obtain⟨r,h1,h2⟩:=(zbS hs).1 (ih (by omega))
      rw[zcJ T R W (by omega)]
      refine (zbS (zcE hs)).2 ?_
      by_cases c:kR r=(W.getD n C0).1
      ·exact⟨_,(zbI hs).2 (.inl rfl),by rw[<- h2,c];rfl⟩
      ·exact⟨r,(zbI hs).2 (.inr ⟨h1,c⟩),h2⟩
   have:=this W.length (Nat.le_refl _)
   rwa[List.take_length]at this
def num2 (n:Int):Tx:=if n<10 then [UInt8.ofNat (48+n).toNat] else [UInt8.ofNat (48+n / 10).toNat,UInt8.ofNat (48+n%10).toNat]
theorem zkx:∀n:Nat,n<22->strconv_Itoa (n:Int)=some (num2 n):=by decide +kernel
theorem zjU:∀n:Nat,n<22->spec_l1Num'''''''' (n:Int)=some (num2 n):=by decide +kernel
abbrev Stp:=Int × Int × Tx × Tx
def wantS (k s:Int):Bool:=if k=5 then decide (s=2) else if k=6 then decide (s=3) else if k=7 then decide (s=1)||decide (s=2) else decide (s=1)
def okSt (X:List Tn)(x:Stp):Bool :=
 (decide (1<=x.2.1)&&decide (x.2.1<=X.length))&&((decide (2<=x.1)&&decide (x.1<=7))&&(wantS x.1 (X.getD (x.2.1-1).toNat T0).2.1&&((!(decide (x.1=2)||decide (x.1=3))||isKy x.2.2.1)&&(!decide (x.1=3)||isVl x.2.2.2))))
def newT (n:Int):Tn:=(n,1,[],[],0,0,false)
def SD (e:Int)(R:List Rc)(X:List Tn)(O:List Int)(x:Stp):List Rc × List Tn × List Int × Tx × Int :=
 if x.1=1 then (if x.2.1=0 then (if X.length=20 then (R,X,O,[],4) else (R,X ++ [newT ((X.length:Int)+1)],O,num2 ((X.length:Int)+1),0)) else (R,X,O,[],1))
 else if okSt X x=true then
  (if x.1=2 then (R,(rdP R X (x.2.1-1).toNat x.2.2.1).1,O,(rdP R X (x.2.1-1).toNat x.2.2.1).2.1,(rdP R X (x.2.1-1).toNat x.2.2.1).2.2)
  else if x.1=3 then (R,X.set (x.2.1-1).toNat (setWrites (X.getD (x.2.1-1).toNat T0) (putG kC (x.2.2.1,x.2.2.2) (X.getD (x.2.1-1).toNat T0).2.2.2.1)),O,[],0)
  else if x.1=4 then ((lkP R X (x.2.1-1).toNat x.2.1).2.1,(lkP R X (x.2.1-1).toNat x.2.1).1,O,[],(lkP R X (x.2.1-1).toNat x.2.1).2.2)
  else if x.1=5 then ((ckP e R X O (x.2.1-1).toNat x.2.1).1,(ckP e R X O (x.2.1-1).toNat x.2.1).2.1,(ckP e R X O (x.2.1-1).toNat x.2.1).2.2.1,[],(ckP e R X O (x.2.1-1).toNat x.2.1).2.2.2)
  else if x.1=6 then (inR (X.getD (x.2.1-1).toNat T0) R (X.getD (x.2.1-1).toNat T0).2.2.2.1,X.set (x.2.1-1).toNat (setState (X.getD (x.2.1-1).toNat T0) 4),O,[],0)
  else (lvP R x.2.1,X.set (x.2.1-1).toNat (setState (X.getD (x.2.1-1).toNat T0) 5),O,[],0))
 else (R,X,O,[],1)
structure SS (e:Int)(R:List Rc)(X:List Tn)(O:List Int):Prop where
 ws:WS R X
 rg:RG e R
 he:0<=e/\e<=1048575
 ol:O.length<=1000
 few:∀T∈X,T.2.2.1.length<=20/\T.2.2.2.1.length<=20
 rf:R.length<=20
 id:∀t,t<X.length->(X.getD t T0).1=(t:Int)+1
 lk:∀T∈X,∀l∈T.2.2.1,l.2.2.2.2=false
 own:∀T∈X,(T.2.1=2\/T.2.1=3)->∀w∈T.2.2.2.1,hasG kR R0 R w.1
theorem SS.fewAt{e:Int}{R:List Rc}{X:List Tn}{O:List Int}(h:SS e R X O){t:Nat}(ht:t<X.length):(X.getD t T0).2.2.1.length<=20/\(X.getD t T0).2.2.2.1.length<=20:=h.few _ (zaf ht T0)
theorem zdp {l:Tx}(h:isVl l=true):l.length<=20:=by
 simp only[isVl,Bool.and_eq_true,decide_eq_true_eq]at h;exact h.2
theorem zdr {e:Int}{R:List Rc}{X:List Tn}{O:List Int}(h:SS e R X O){T:Tn}(hw:∀w∈T.2.2.2.1,hasG kR R0 R w.1)(hl:T.2.2.2.1.length<=20) :
 loopM (σ:=List Rc × List Cl × Int) (X:=List Rc) (fun s36 =>
  if decide (s36.2.2<((T.2.2.2.1.length:Nat):Int))=true then
   (chk (decide ((0:Int)<=s36.2.2)&&decide (s36.2.2<((s36.2.1.length:Nat):Int))) <|
    (impl_Store_at e s36.1 X O (s36.2.1.getD (Int.toNat s36.2.2) ([],[])).1).bind fun r38 =>
    chk (decide ((0:Int)<=r38.1)&&decide (r38.1<((s36.1.length:Nat):Int))) <|
    some (s36.1.set (Int.toNat r38.1) ((s36.2.1.getD (Int.toNat s36.2.2) ([],[])).1,((s36.2.1.getD (Int.toNat s36.2.2) ([],[])).2,(T.2.2.2.2.1,(T.2.2.2.2.2.1,(T.2.2.2.2.2.2,0))))),s36.2.1)).bind fun s41 =>
   some (.inl (s41.1,s41.2,(i64 (s36.2.2+(1:Int)))))
  else some (.inr s36.1)) (R,T.2.2.2.1,0)=some (inR T R T.2.2.2.1):=by
 refine zah (fun k:Nat=>(inR T R (T.2.2.2.1.take k),T.2.2.2.1,(k:Int))) T.2.2.2.1.length (inR T R T.2.2.2.1) (by simp[inR]) (fun k hk=>?_) (by simp)
 have k1:(k:Int)<T.2.2.2.1.length:=by omega
 have k0:(0:Int)<=(k:Int):=by omega
 have ki:i64 ((k:Int)+1)=((k+1:Nat):Int):=by rw[zae (by omega) (by omega)];rfl
 have hs:SK kR (inR T R (T.2.2.2.1.take k)):=zjD h.ws.rk _
 have hln:=zht (T:=T) (R:=R) T.2.2.2.1 k (by omega)
 have hrf:=h.rf
 have hh:=zlf (T:=T) h.ws.rk (hw _ (zaf hk C0)) (T.2.2.2.1.take k)
 rw[zcJ T R T.2.2.2.1 hk]
 obtain⟨S,hS⟩:∃S,inR T R (T.2.2.2.1.take k)=S:=⟨_,rfl⟩
 obtain⟨w,hw2⟩:∃w,T.2.2.2.1.getD k C0=w:=⟨_,rfl⟩
 have hw':T.2.2.2.1.getD k ([],[])=w:=hw2
 rw[hS]at hs hln hh
 rw[hw2]at hh
 have hat:=zhv hs (by omega) e X O w.1
 have hpos:=zeh (key:=kR) (w.1,w.2,T.2.2.2.2.1,T.2.2.2.2.2.1,T.2.2.2.2.2.2,0) R0 S
 have hkk:kR (w.1,w.2,T.2.2.2.2.1,T.2.2.2.2.2.1,T.2.2.2.2.2.2,0)=w.1:=rfl
 rw[hkk,if_pos hh]at hpos
 have hst:inStep T S w=S.set (lbS kR S w.1) (w.1,w.2,T.2.2.2.2.1,T.2.2.2.2.2.1,T.2.2.2.2.2.2,0):=hpos
 have h31:=hh.1
 rw[hS,hw2,hst]
 simp only[k1,k0,decide_true,Bool.and_self,zaa,if_true,Int.toNat_natCast,ki,hw',hat,bind_some,zak (show (0:Int)<=(lbS kR S w.1:Int) by omega),zak (show (lbS kR S w.1:Int)<(S.length:Int) by omega)]
theorem zlj (R:List Rc)(X:List Tn)(t:Nat)(k:Tx):(rdP R X t k).1.length=X.length:=by
 unfold rdP
 split
 ·rfl
 · split
   ·rfl
   · split
     · split
       ·rfl
       ·exact List.length_set
     ·rfl
theorem zj8 (R:List Rc)(X:List Tn)(t:Nat)(id:Int):(lkP R X t id).1.length=X.length:=by
 unfold lkP
 split
 ·rfl
 ·exact List.length_set
theorem zgc (e:Int)(R:List Rc)(X:List Tn)(O:List Int)(t:Nat)(id:Int):(ckP e R X O t id).1.length=R.length/\(ckP e R X O t id).2.1.length=X.length:=by
 unfold ckP
 split
 ·exact⟨by simp[lvP],List.length_set⟩
 · split
   ·exact⟨rfl,rfl⟩
   ·exact⟨rfl,List.length_set⟩
theorem zjE {X:List Tn}{k:Int}{t:Nat}{y v:Tx}(ht:t<X.length):okSt X (k,(t:Int)+1,y,v)=((decide (2<=k)&&decide (k<=7))&&(wantS k (X.getD t T0).2.1&&((!(decide (k=2)||decide (k=3))||isKy y)&&(!decide (k=3)||isVl v)))):=by
 have tn:((t:Int)+1-1).toNat=t:=by omega
 unfold okSt
 dsimp only
 rw[tn,decide_eq_true (show 1<=(t:Int)+1 by omega),decide_eq_true (show (t:Int)+1<=X.length by omega)]
 simp only[Bool.and_self,Bool.true_and]
theorem zhL {X:List Tn}{k a:Int}{y v:Tx}(h:¬(1<=a/\a<=X.length)):(decide (1<=a)&&decide (a<=(X.length:Int)))=false/\okSt X (k,a,y,v)=false:=by
 have hb:(decide (1<=a)&&decide (a<=(X.length:Int)))=false:=by
  rw[Bool.eq_false_iff]
  intro hh
  simp only[Bool.and_eq_true,decide_eq_true_eq]at hh
  exact h hh
 refine⟨hb,?_⟩
 unfold okSt
 dsimp only
 rw[hb];rfl
theorem zl2 {W:List Cl}(hl:W.length<=1000)(y v:Tx){B:Type}(f:List Cl->B) :
 (if lbS kC W y<W.length/\kC (W[lbS kC W y]?.getD C0)=y then chk (decide (lbS kC W y<W.length)) (chk (decide (lbS kC W y<W.length)) (some (f (W.set (lbS kC W y) ((W[lbS kC W y]?.getD ([],[])).1,v)))))
  else (slices_Insert__impl_Cell_impl_Cell W (lbS kC W y:Int) [(y,v)]).bind fun r31=>some (f r31))=some (f (putG kC (y,v) W)):=by
 have hpos:=zeh (key:=kC) (y,v) C0 W
 have hkk:kC (y,v)=y:=rfl
 rw[hkk]at hpos
 rw[hpos]
 by_cases c:hasG kC C0 W y
 · have c1:=c.1
   have c2:(W[lbS kC W y]?.getD C0).1=y:=by rw[<- List.getD_eq_getElem?_getD];exact c.2
   have c3:(W[lbS kC W y]?.getD ([],[])).1=y:=c2
   rw[if_pos c,if_pos ⟨c1,c2⟩,c3,zak c1]
   rfl
 · rw[if_neg c,if_neg (fun q=>c ⟨q.1,by rw[List.getD_eq_getElem?_getD];exact q.2⟩),zkF (by omega) (zdS _ _)]
   rfl
theorem ziG {e:Int}{R:List Rc}{X:List Tn}{O:List Int}(h:SS e R X O)(x:Stp)(hv:x.2.2.2.length<=1000000) :
 impl_Store_do e R X O x.1 x.2.1 x.2.2.1 x.2.2.2=some (e,(SD e R X O x).1,(SD e R X O x).2.1,(SD e R X O x).2.2.1,(SD e R X O x).2.2.2.1,(SD e R X O x).2.2.2.2):=by
 obtain⟨k,a,y,v⟩:=x
 have hx:=h.ws.xl
 unfold impl_Store_do SD
 dsimp only at hv ⊢
 by_cases h1:k=1
 · simp only[h1,decide_true,if_true]
   by_cases ha:a=0
   · simp only[ha,decide_true,Bool.not_true,Bool.false_eq_true,if_false,if_true]
     by_cases h20:X.length=20
     · have h20':((X.length:Nat):Int)=20:=by omega
       rw[if_pos (decide_eq_true h20'),if_pos h20]
     · have h20':¬((X.length:Nat):Int)=20:=by omega
       have hi:i64 ((X.length:Int)+1)=(X.length:Int)+1:=zae (by omega) (by omega)
       have hit:=zkx (X.length+1) (by omega)
       have hc:((X.length+1:Nat):Int)=(X.length:Int)+1:=by omega
       rw[hc]at hit
       simp only[h20',decide_false,Bool.false_eq_true,if_false,h20,hi]
       rw[zaz (by simp only[List.length_append,List.length_cons,List.length_nil];omega)]
       exact zac hit rfl
   ·simp only[ha,decide_false,Bool.not_false,if_true,if_false]
 simp only[h1,decide_false,Bool.false_eq_true,if_false,zaH,bind_some]
 by_cases hr:1<=a/\a<=X.length
 case neg =>
  obtain⟨q1,q2⟩:=zhL (k:=k) (y:=y) (v:=v) hr
  simp only[q1,q2,Bool.not_false,if_true,Bool.false_eq_true,if_false]
 obtain⟨t,rfl⟩:∃t:Nat,a=(t:Int)+1:=⟨(a-1).toNat,by omega⟩
 have ht:t<X.length:=by omega
 have hok:=zjE (k:=k) (y:=y) (v:=v) ht
 have ti:i64 ((t:Int)+1-1)=(t:Int):=by rw[zae (by omega) (by omega)];omega
 have tn:((t:Int)+1-1).toNat=t:=by omega
 have t1:(t:Int)<X.length:=by omega
 have t0:(0:Int)<=(t:Int):=by omega
 have p1:(1:Int)<=(t:Int)+1:=by omega
 have p2:(t:Int)+1<=X.length:=by omega
 have hrd:=zgI (e:=e) (O:=O) h.ws ht y
 obtain⟨fw1,fw2⟩:=h.fewAt ht
 have hid:=h.id t ht
 have hlk:=zgH (e:=e) (O:=O) h.ws ht (by have:=h.rf;omega)
 have hlv:=zdb (e:=e) (R:=R) (X:=X) (O:=O) (by have:=h.ws.rl;omega) ht
 have hck:(X.getD t T0).2.1=2->_:=fun hs=>zfJ (O:=O) h.ws h.rg h.he h.ol ht (by omega) (h.own _ (zaf ht T0) (.inl hs))
 have hin:(X.getD t T0).2.1=3->_:=fun hs=>zdr h (h.own _ (zaf ht T0) (.inr hs)) fw2
 have hwa:=zfp ht (h.ws.w ht).1 (by omega) y
 have w2:=(h.ws.w ht).2.1
 have hval:=zaC (l:=v) (by omega)
 rw[hid]at hlk hlv hck
 rw[hok]
 obtain⟨T,hT⟩:∃T,X.getD t T0=T:=⟨_,rfl⟩
 have hT':X.getD t (0,(0,([],([],(0,(0,false))))))=T:=hT
 rw[hT]at hid fw1 fw2 hck hin hwa w2 hlv
 simp only[ti,tn,hT,hT',t1,t0,p1,p2,decide_true,Bool.and_self,Bool.not_true,Bool.false_eq_true,if_false,zaa,Int.toNat_natCast,bind_some,zbg,hval,zdB,zgq,zfT]
 by_cases h27:2<=k/\k<=7
 case neg =>
  have hb:(decide (2<=k)&&decide (k<=7))=false:=by
   rw[Bool.eq_false_iff]
   intro hh
   simp only[Bool.and_eq_true,decide_eq_true_eq]at hh
   exact h27 hh
  simp only[hb,Bool.not_false,Bool.true_or,if_true,Bool.false_and,Bool.false_eq_true,if_false]
  split<;>(try split)<;>rfl
 have hk:k=2\/k=3\/k=4\/k=5\/k=6\/k=7:=by omega
 rcases hk with rfl|rfl|rfl|rfl|rfl|rfl
 · by_cases hs:T.2.1=1
   · cases hy:isKy y with
     |true=>simp[wantS,hs,hrd]
     |false=>simp[wantS,hs]
   ·simp[wantS,hs]
 · by_cases hs:T.2.1=1
   · cases hy:isKy y with
     | true =>
       cases hvl:isVl v with
       | true =>
         simp[wantS,hs,hwa]
         refine zac (zl2 w2 y v (fun r=>X.set t (T.1,1,T.2.2.1,r,T.2.2.2.2))) ?_
         simp[setWrites,hs]
       |false=>simp[wantS,hs]
     |false=>simp[wantS,hs]
   ·simp[wantS,hs]
 · by_cases hs:T.2.1=1
   · simp[wantS,hs,hlk]
     exact List.take_of_length_le (Nat.le_of_eq (zj8 R X t ((t:Int)+1)))
   ·simp[wantS,hs]
 · by_cases hs:T.2.1=2
   · have:=hck hs
     simp[wantS,hs,this]
     exact⟨List.take_of_length_le (Nat.le_of_eq (zgc e R X O t ((t:Int)+1)).1),List.take_of_length_le (Nat.le_of_eq (zgc e R X O t ((t:Int)+1)).2)⟩
   ·simp[wantS,hs]
 · by_cases hs:T.2.1=3
   · have h6:=hin hs
     simp[wantS,hs]
     refine zac (zac (a:=inR T R T.2.2.2.1) (by simpa using h6) rfl) rfl
   ·simp[wantS,hs]
 · by_cases hs:T.2.1=1
   ·simp[wantS,hs,hlv]
   · by_cases hs2:T.2.1=2
     ·simp[wantS,hs2,hlv]
     ·simp[wantS,hs,hs2]
theorem zfQ {e:Int}{R:List Rc}{X:List Tn}{O:List Int}(hx:X.length<=1000)(a:Int):spec_l5State e R X O a=some (if 1<=a/\a<=X.length then (X.getD (a-1).toNat T0).2.1 else 0):=by
 unfold spec_l5State
 rw[za5]
 simp only[bind_some]
 by_cases h:1<=a/\a<=X.length
 · have hi:i64 (a-1)=a-1:=zae (by omega) (by omega)
   rw[if_pos h]
   simp only[h.1,h.2,decide_true,Bool.and_self,Bool.not_true,Bool.false_eq_true,if_false,hi,zak (show (0:Int)<=a-1 by omega),zak (show a-1<(X.length:Int) by omega),zaa]
 · have hb:(decide (1<=a)&&decide (a<=(X.length:Int)))=false:=by
    rw[Bool.eq_false_iff]
    intro hh
    simp only[Bool.and_eq_true,decide_eq_true_eq]at hh
    exact h hh
   rw[if_neg h,hb];rfl
theorem zd9 {e:Int}{R:List Rc}{X:List Tn}{O:List Int}(h:SS e R X O){T:Tn}(hl:T.2.2.2.1.length<=20) :
 loopM (σ:=Int × List Rc × List Lk × List Cl × Int) (X:=Int × List Rc) (fun s21 =>
  if decide (s21.2.2.2.2<((T.2.2.2.1.length:Nat):Int))=true then
   (chk (decide ((0:Int)<=s21.2.2.2.2)&&decide (s21.2.2.2.2<((s21.2.2.2.1.length:Nat):Int))) <|
    (spec_l5Put' s21.1 s21.2.1 X O (s21.2.2.2.1.getD (Int.toNat s21.2.2.2.2) ([],[])).1 (s21.2.2.2.1.getD (Int.toNat s21.2.2.2.2) ([],[])).2 T.2.2.2.2.1 T.2.2.2.2.2.1 T.2.2.2.2.2.2 0).bind fun r23 =>
    some (r23.1,r23.2,s21.2.2.1,s21.2.2.2.1)).bind fun s24 =>
   some (.inl (s24.1,s24.2.1,s24.2.2.1,s24.2.2.2,(i64 (s21.2.2.2.2+(1:Int)))))
  else some (.inr (s21.1,s21.2.1))) (e,R,T.2.2.1,T.2.2.2.1,0)=some (e,inR T R T.2.2.2.1):=by
 refine zah (fun k:Nat=>(e,inR T R (T.2.2.2.1.take k),T.2.2.1,T.2.2.2.1,(k:Int))) T.2.2.2.1.length (e,inR T R T.2.2.2.1) (by simp[inR]) (fun k hk=>?_) (by simp)
 have k1:(k:Int)<T.2.2.2.1.length:=by omega
 have k0:(0:Int)<=(k:Int):=by omega
 have ki:i64 ((k:Int)+1)=((k+1:Nat):Int):=by rw[zae (by omega) (by omega)];rfl
 have hln:=zht (T:=T) (R:=R) T.2.2.2.1 k (by omega)
 have hrf:=h.rf
 rw[zcJ T R T.2.2.2.1 hk]
 obtain⟨S,hS⟩:∃S,inR T R (T.2.2.2.1.take k)=S:=⟨_,rfl⟩
 obtain⟨w,hw2⟩:∃w,T.2.2.2.1.getD k C0=w:=⟨_,rfl⟩
 have hw':T.2.2.2.1.getD k ([],[])=w:=hw2
 rw[hS]at hln
 have hp:=zkA (R:=S) (by omega) e X O (w.1,w.2,T.2.2.2.2.1,T.2.2.2.2.2.1,T.2.2.2.2.2.2,0)
 rw[hS,hw2]
 simp only[k1,k0,decide_true,Bool.and_self,zaa,if_true,Int.toNat_natCast,ki,hw',hp,bind_some]
 rfl
theorem zb0 (X:List Tn)(t:Nat)(v:Tn):List.take X.length (X.set t v)=X.set t v:=List.take_of_length_le (by rw[List.length_set];exact Nat.le_refl _)
theorem zi9 {e : Int} {R : List Rc} {X : List Tn} {O : List Int} (h : SS e R X O) (x : Stp) (hk : x.2.2.1.length <= 1000000) (hv : x.2.2.2.length <= 1000000) :
 spec_l5Do e R X O x.1 x.2.1 x.2.2.1 x.2.2.2=some (e,(SD e R X O x).1,(SD e R X O x).2.1,(SD e R X O x).2.2.1,(SD e R X O x).2.2.2.1,(SD e R X O x).2.2.2.2):=by
 obtain⟨k,a,y,v⟩:=x
 have hx:=h.ws.xl
 unfold spec_l5Do SD
 dsimp only at hk hv ⊢
 by_cases h1:k=1
 · simp only[h1,decide_true,if_true]
   by_cases ha:a=0
   · simp only[ha,decide_true,Bool.not_true,Bool.false_eq_true,if_false,if_true]
     by_cases h20:X.length=20
     · have h20':((X.length:Nat):Int)=20:=by omega
       rw[if_pos (decide_eq_true h20'),if_pos h20]
     · have h20':¬((X.length:Nat):Int)=20:=by omega
       have hi:i64 ((X.length:Int)+1)=(X.length:Int)+1:=zae (by omega) (by omega)
       have hit:=zjU (X.length+1) (by omega)
       have hl:(X ++ [newT ((X.length:Int)+1)]).length=X.length+1:=by simp
       have hc:((X.length+1:Nat):Int)=(X.length:Int)+1:=by omega
       have hnt:((X.length:Int)+1,(1,([],([],(0,(0,false))))))=newT ((X.length:Int)+1):=rfl
       simp only[h20',decide_false,Bool.false_eq_true,if_false,h20,hi,hnt,hl]
       rw[zaz (by omega)]
       exact zac hit (by rw[hc])
   ·simp only[ha,decide_false,Bool.not_false,if_true,if_false]
 simp only[h1,decide_false,Bool.false_eq_true,if_false,zfQ (show X.length<=1000 by omega),bind_some]
 have hky:=zbd y (by omega)
 have hval:=zaE (l:=v) (by omega)
 by_cases hr:1<=a/\a<=X.length
 case neg =>
  obtain⟨q1,q2⟩:=zhL (k:=k) (y:=y) (v:=v) hr
  rw[if_neg hr,q2]
  simp only[hky,hval,bind_some,zfT,zdB,zgq,Bool.false_eq_true,if_false]
  by_cases c2:k=2
  ·subst c2;simp
  · by_cases c3:k=3
    ·subst c3;simp
    · by_cases c4:k=4
      ·subst c4;simp
      · by_cases c5:k=5
        ·subst c5;simp
        · by_cases c6:k=6
          ·subst c6;simp
          · by_cases c7:k=7
            ·subst c7;simp
            ·simp[c2,c3,c4,c5,c6,c7]
 obtain⟨t,rfl⟩:∃t:Nat,a=(t:Int)+1:=⟨(a-1).toNat,by omega⟩
 have ht:t<X.length:=by omega
 have hok:=zjE (k:=k) (y:=y) (v:=v) ht
 have ti:i64 ((t:Int)+1-1)=(t:Int):=by rw[zae (by omega) (by omega)];omega
 have tn:((t:Int)+1-1).toNat=t:=by omega
 have t1:(t:Int)<X.length:=by omega
 have t0:(0:Int)<=(t:Int):=by omega
 have hrd:=zgs (e:=e) (O:=O) h.ws ht y
 obtain⟨fw1,fw2⟩:=h.fewAt ht
 have hlk:=zgF (e:=e) (O:=O) h.ws ht (by have:=h.rf;omega)
 have hlv:=zde (e:=e) (R:=R) (X:=X) (O:=O) (by have:=h.ws.rl;omega) ht (by omega)
 have hck:=zfV (O:=O) h.ws h.rg h.he h.ol ht (by omega) (h.lk _ (zaf ht T0))
 have hin:=zd9 h fw2
 have hcl:=zku (W:=(X.getD t T0).2.2.2.1) (by omega) y v
 rw[if_pos hr,hok,tn]
 obtain⟨T,hT⟩:∃T,X.getD t T0=T:=⟨_,rfl⟩
 have hT':X.getD t (0,(0,([],([],(0,(0,false))))))=T:=hT
 rw[hT]at fw1 fw2 hin hcl hlv
 simp only[ti,hT,hT',t1,t0,decide_true,Bool.and_self,zaa,Int.toNat_natCast,bind_some,hky,hval,zdB,zgq,zfT]
 by_cases h27:2<=k/\k<=7
 case neg =>
  have n2:¬k=2:=by omega
  have n3:¬k=3:=by omega
  have n4:¬k=4:=by omega
  have n5:¬k=5:=by omega
  have n6:¬k=6:=by omega
  have n7:¬k=7:=by omega
  have hb:(decide (2<=k)&&decide (k<=7))=false:=by
   rw[Bool.eq_false_iff]
   intro hh
   simp only[Bool.and_eq_true,decide_eq_true_eq]at hh
   exact h27 hh
  simp only[n2,n3,n4,n5,n6,n7,hb,decide_false,Bool.false_and,Bool.false_eq_true,if_false,bind_some]
 have hk7:k=2\/k=3\/k=4\/k=5\/k=6\/k=7:=by omega
 have l1:=List.take_of_length_le (Nat.le_of_eq (zj8 R X t ((t:Int)+1)))
 have l2:=List.take_of_length_le (Nat.le_of_eq (zgc e R X O t ((t:Int)+1)).1)
 have l3:=List.take_of_length_le (Nat.le_of_eq (zgc e R X O t ((t:Int)+1)).2)
 have l4:=List.take_of_length_le (Nat.le_of_eq (zlj R X t y))
 have l5:List.take R.length (lvP R ((t:Int)+1))=lvP R ((t:Int)+1):=List.take_of_length_le (by simp[lvP])
 rcases hk7 with rfl|rfl|rfl|rfl|rfl|rfl
 · by_cases hs:T.2.1=1
   · cases hy:isKy y with
     |true=>simp[wantS,hs,hrd,l4]
     |false=>simp[wantS,hs]
   ·simp[wantS,hs]
 · by_cases hs:T.2.1=1
   · cases hy:isKy y with
     | true =>
       cases hvl:isVl v with
       | true =>
         simp[wantS,hs,hcl,zb0]
         simp[setWrites,hs]
       |false=>simp[wantS,hs]
     |false=>simp[wantS,hs]
   ·simp[wantS,hs]
 · by_cases hs:T.2.1=1
   ·simp[wantS,hs,hlk,l1]
   ·simp[wantS,hs]
 · by_cases hs:T.2.1=2
   ·simp[wantS,hs,hck,l2,l3]
   ·simp[wantS,hs]
 · by_cases hs:T.2.1=3
   · have h6:=hin
     simp at h6
     simp[wantS,hs,h6,zb0]
   ·simp[wantS,hs]
 · by_cases hs:T.2.1=1
   ·simp[wantS,hs,hlv,l5,zb0]
   · by_cases hs2:T.2.1=2
     ·simp[wantS,hs2,hlv,l5,zb0]
     ·simp[wantS,hs,hs2]
theorem zgA {R:List Rc}{X:List Tn}{O:List Int}(e:Int)(hr:R.length<=1000)(ho:O.length<=1000)(hx:X.length<=1000)(hf:∀T∈X,T.2.2.1.length<=1000/\T.2.2.2.1.length<=1000) :
 impl_copyStore e R X O=some (e,R,X,O):=by
 unfold impl_copyStore
 simp only[List.nil_append]
 rw[zak (show ((R.length:Nat):Int)<=2199023255552 by omega),zak (show ((O.length:Nat):Int)<=17592186044416 by omega),zaa,zaa]
 refine zac (zac (zah (fun k:Nat=>(X.take k,(k:Int))) X.length X (by simp) (fun k hk=>?_) (by simp)) rfl) rfl
 have k1:(k:Int)<X.length:=by omega
 have k0:(0:Int)<=(k:Int):=by omega
 have ki:i64 ((k:Int)+1)=((k+1:Nat):Int):=by rw[zae (by omega) (by omega)];rfl
 obtain⟨f1,f2⟩:=hf _ (zaf hk T0)
 obtain⟨T,hT⟩:∃T,X.getD k T0=T:=⟨_,rfl⟩
 have hT':X.getD k (0,(0,([],([],(0,(0,false))))))=T:=hT
 have hsn:=zaq X T0 hk
 rw[hT]at f1 f2 hsn
 have c1:decide (((T.2.2.1.length:Nat):Int)<=2513169434916)=true:=by simp;omega
 have c2:decide (((T.2.2.2.1.length:Nat):Int)<=4398046511104)=true:=by simp;omega
 have c3:decide ((((X.take k ++ [T]).length:Nat):Int)<=1599289640401)=true:=by simp;omega
 simp only[k1,k0,decide_true,Bool.and_self,zaa,if_true,Int.toNat_natCast,ki,hT',List.nil_append,c1,c2,c3,bind_some,hsn]
theorem zh7 {R:List Rc}{X:List Tn}{O:List Int}(e:Int)(hr:R.length<=1000)(ho:O.length<=1000)(hx:X.length<=1000)(hf:∀T∈X,T.2.2.1.length<=1000/\T.2.2.2.1.length<=1000) :
 spec_l5Own e R X O=some (e,R,X,O):=by
 unfold spec_l5Own
 simp only[List.nil_append]
 rw[zak (show ((R.length:Nat):Int)<=2199023255552 by omega),zak (show ((O.length:Nat):Int)<=17592186044416 by omega),zaa,zaa]
 refine zac (zac (zah (fun k:Nat=>(X.take k,(k:Int))) X.length X (by simp) (fun k hk=>?_) (by simp)) rfl) rfl
 have k1:(k:Int)<X.length:=by omega
 have k0:(0:Int)<=(k:Int):=by omega
 have ki:i64 ((k:Int)+1)=((k+1:Nat):Int):=by rw[zae (by omega) (by omega)];rfl
 obtain⟨f1,f2⟩:=hf _ (zaf hk T0)
 obtain⟨T,hT⟩:∃T,X.getD k T0=T:=⟨_,rfl⟩
 have hT':X.getD k (0,(0,([],([],(0,(0,false))))))=T:=hT
 have hsn:=zaq X T0 hk
 rw[hT]at f1 f2 hsn
 have c1:decide (((T.2.2.1.length:Nat):Int)<=2513169434916)=true:=by simp;omega
 have c2:decide (((T.2.2.2.1.length:Nat):Int)<=4398046511104)=true:=by simp;omega
 have c3:decide ((((X.take k ++ [T]).length:Nat):Int)<=1599289640401)=true:=by simp;omega
 simp only[k1,k0,decide_true,Bool.and_self,zaa,if_true,Int.toNat_natCast,ki,hT',List.nil_append,c1,c2,c3,bind_some,hsn]
theorem zlw {e : Int} {R : List Rc} {X : List Tn} {O : List Int} {x : Stp} (h0 : (SD e R X O x).2.2.2.2 ≠ 0) (h3 : (SD e R X O x).2.2.2.2 ≠ 3) : SD e R X O x = (R, X, O, [], (SD e R X O x).2.2.2.2) := by
 unfold SD at h0 h3 ⊢
 split
 · split
   · split
     ·rfl
     · rename_i c1 c2 c3
       rw[if_pos c1,if_pos c2,if_neg c3]at h0
       exact absurd rfl h0
   ·rfl
 · rename_i c1
   rw[if_neg c1]at h0 h3
   split
   · rename_i c2
     rw[if_pos c2]at h0 h3
     split
     · rename_i c3
       rw[if_pos c3]at h0 h3
       unfold rdP at h0 h3 ⊢
       split
       ·rename_i c4;rw[if_pos c4]at h0;exact absurd rfl h0
       · rename_i c4
         rw[if_neg c4]at h0 h3
         split
         ·rename_i i c5;rw[c5]at h0;exact absurd rfl h0
         · rename_i c5
           rw[c5]at h0 h3
           split
           · rename_i c6
             simp only at h0
             rw[if_pos c6]at h0
             split
             ·rfl
             ·rename_i c7;rw[if_neg c7]at h0;exact absurd rfl h0
           ·rfl
     · rename_i c3
       rw[if_neg c3]at h0 h3
       split
       ·rename_i c4;rw[if_pos c4]at h0;exact absurd rfl h0
       · rename_i c4
         rw[if_neg c4]at h0 h3
         split
         · rename_i c5
           rw[if_pos c5]at h0 h3
           unfold lkP at h0 h3 ⊢
           split
           ·rfl
           ·rename_i c6;rw[if_neg c6]at h0;exact absurd rfl h0
         · rename_i c5
           rw[if_neg c5]at h0 h3
           split
           · rename_i c6
             rw[if_pos c6]at h0 h3
             unfold ckP at h0 h3 ⊢
             split
             ·rename_i c7;rw[if_pos c7]at h3;exact absurd rfl h3
             · rename_i c7
               rw[if_neg c7]at h0 h3
               split
               ·rfl
               ·rename_i c8;rw[if_neg c8]at h0;exact absurd rfl h0
           · rename_i c6
             rw[if_neg c6]at h0
             split
             ·rename_i c7;rw[if_pos c7]at h0;exact absurd rfl h0
             ·rename_i c7;rw[if_neg c7]at h0;exact absurd rfl h0
   ·rfl
theorem SS.cp{e:Int}{R:List Rc}{X:List Tn}{O:List Int}(h:SS e R X O):impl_copyStore e R X O=some (e,R,X,O)/\spec_l5Own e R X O=some (e,R,X,O):=by
 have h1:=h.rf
 have h2:=h.ol
 have h3:=h.ws.xl
 have h4:∀T∈X,T.2.2.1.length<=1000/\T.2.2.2.1.length<=1000:=fun T hT=>by have:=h.few T hT;omega
 exact⟨zgA e (by omega) h2 (by omega) h4,zh7 e (by omega) h2 (by omega) h4⟩
theorem zeW {e:Int}{R:List Rc}{X:List Tn}{O:List Int}(h:SS e R X O)(x:Stp)(hv:x.2.2.2.length<=1000000) :
 impl_doStep e R X O x.1 x.2.1 x.2.2.1 x.2.2.2=some (e,(SD e R X O x).1,(SD e R X O x).2.1,(SD e R X O x).2.2.1,(SD e R X O x).2.2.2.1,(SD e R X O x).2.2.2.2):=by
 unfold impl_doStep
 rw[h.cp.1]
 simp only[bind_some]
 rw[ziG h x hv]
 simp only[bind_some]
 by_cases h0:(SD e R X O x).2.2.2.2=0
 ·simp[h0]
 · by_cases h3:(SD e R X O x).2.2.2.2=3
   ·simp[h3]
   · have:=zlw h0 h3
     simp only[h0,h3,decide_false,Bool.not_false,if_true]
     rw[this]
theorem zl3 {X:List Tn}{t:Nat}(ht:t<X.length)(T:Tn)(s:Nat):(X.set t T).getD s T0=if s=t then T else X.getD s T0:=by
 by_cases h:s=t
 ·subst h;simp[ht]
 ·simp only[List.getD_eq_getElem?_getD,List.getElem?_set_ne (Ne.symm h),if_neg h]
theorem zl6 {X:List Tn}(T:Tn){s:Nat}(hs:s<X.length):(X ++ [T]).getD s T0=X.getD s T0:=by
 simp only[List.getD_eq_getElem?_getD,List.getElem?_append_left hs]
theorem zhc (X:List Tn)(T:Tn):(X ++ [T]).getD X.length T0=T:=by simp
def K4 (k:Tx):Prop:=k∈([[97],[98],[99],[100]]:List Tx)
theorem zby {A:Type}{key:A->Tx}{l:List A}(h:(l.map key).Nodup)(hk:∀x∈l,K4 (key x)):l.length<=4:=by
 have:=List.Nodup.length_le_of_subset (l₂:=([[97],[98],[99],[100]]:List Tx)) h (fun k hk'=>by
  obtain⟨x,hx,rfl⟩:=List.mem_map.1 hk'
  exact hk x hx)
 simpa using this
theorem zcr {A:Type}{key:A->Tx}{l:List A}(h:SK key l):(l.map key).Nodup:=by
 rw[List.nodup_iff_pairwise_ne,List.pairwise_map]
 exact List.Pairwise.imp (fun {a b} hab e=>by rw[e,za1]at hab;cases hab) h
theorem zdl {S:List Rc}(h:SK kR S){r:Rc}{k:Tx}(hr:r∈S)(hk:r.1=k):recOr S k=r:=by
 subst hk;exact zcj h hr
theorem zcF {S:List Rc}(h:SK kR S){k:Tx}(hn:∀r∈S,r.1≠k):recOr S k=(k,[],0,0,false,0):=by
 rcases recOr_cases h k with⟨h1,h2,_⟩|⟨_,h2,_⟩
 ·exact absurd h2 (hn _ h1)
 ·exact h2
theorem zgM {R:List Rc}(h:SK kR R)(r:Rc)(k:Tx):recOr (putG kR r R) k=if k=r.1 then r else recOr R k:=by
 have hs:SK kR (putG kR r R):=zcE h
 by_cases c:k=r.1
 · rw[if_pos c]
   exact zdl hs ((zbI h).2 (.inl rfl)) c.symm
 · rw[if_neg c]
   rcases recOr_cases h k with⟨h1,h2,_⟩|⟨h1,h2,_⟩
   ·exact zdl hs ((zbI h).2 (.inr ⟨h1,fun e=>c (h2.symm.trans e)⟩)) h2
   · rw[h2]
     refine zcF hs fun q hq e=>?_
     rcases (zbI h).1 hq with rfl|⟨h3,_⟩
     ·exact c e.symm
     ·exact h1 q h3 e
theorem zjV {R:List Rc}(h:SK kR R)(id:Int):SK kR (lvP R id):=by
 have hk:∀r,kR (lvR id r)=kR r:=fun r=>by unfold lvR;split<;>rfl
 show List.Pairwise _ _
 unfold lvP
 rw[List.pairwise_map]
 refine List.Pairwise.imp (fun {a b} hab=>?_) h
 rw[hk,hk];exact hab
theorem zhw (id:Int)(r:Rc):(lvR id r).1=r.1:=by unfold lvR;split<;>rfl
theorem zhX {R:List Rc}(h:SK kR R){id:Int}(hid:id≠0)(k:Tx):recOr (lvP R id) k=lvR id (recOr R k):=by
 rcases recOr_cases h k with⟨h1,h2,_⟩|⟨h1,h2,_⟩
 ·exact zdl (zjV h id) (List.mem_map.2 ⟨_,h1,rfl⟩) (by rw[zhw];exact h2)
 · rw[h2]
   have:lvR id (k,[],0,0,false,0)=(k,[],0,0,false,0):=by
    unfold lvR
    rw[if_neg (fun e=>hid e.symm)]
   rw[this]
   refine zcF (zjV h id) fun q hq e=>?_
   obtain⟨r,hr,rfl⟩:=List.mem_map.1 hq
   rw[zhw]at e
   exact h1 r hr e
theorem zed {id:Int}:∀{R:List Rc} (W:List Cl),SK kR R->∀k,((∃w∈W,w.1=k)->recOr (lkR id R W) k=setOwn (recOr R k) id true)/\((∀w∈W,w.1≠k)->recOr (lkR id R W) k=recOr R k)
 |R,[],h,k=>⟨fun⟨w,hw,_⟩=>absurd hw (by simp),fun _=>rfl⟩
 | R, w :: W, h, k => by
   have e:lkR id R (w::W)=lkR id (lkStep id R w) W:=rfl
   have h1:recOr (lkStep id R w) k=if k=w.1 then setOwn (recOr R w.1) id true else recOr R k:=by
    have:=zgM h (setOwn (recOr R w.1) id true) k
    rw[show (setOwn (recOr R w.1) id true).1=w.1 from zcW R w.1]at this
    exact this
   obtain⟨i1,i2⟩:=zed (id:=id) W (ze0 h w) k
   rw[e]
   constructor
   · intro hex
     by_cases c:∃v∈W,v.1=k
     · rw[i1 c,h1]
       split
       ·rename_i hk;subst hk;rfl
       ·rfl
     · rw[i2 fun v hv hk=>c ⟨v,hv,hk⟩,h1]
       obtain⟨v,hv,hk⟩:=hex
       rcases List.mem_cons.1 hv with rfl|hv
       ·rw[if_pos hk.symm,hk]
       ·exact absurd ⟨v,hv,hk⟩ c
   · intro hno
     rw[i2 fun v hv=>hno v (List.mem_cons_of_mem _ hv),h1,if_neg (fun e=>hno w List.mem_cons_self e.symm)]
theorem zdk {T:Tn}:∀{R:List Rc} (W:List Cl),SK kR R->∀k,((∃w∈W,w.1=k)->∃w∈W,w.1=k/\recOr (inR T R W) k=(w.1,w.2,T.2.2.2.2.1,T.2.2.2.2.2.1,T.2.2.2.2.2.2,0))/\((∀w∈W,w.1≠k)->recOr (inR T R W) k=recOr R k)
 |R,[],h,k=>⟨fun⟨w,hw,_⟩=>absurd hw (by simp),fun _=>rfl⟩
 | R, w :: W, h, k => by
   have e:inR T R (w::W)=inR T (inStep T R w) W:=rfl
   have h1:recOr (inStep T R w) k=if k=w.1 then (w.1,w.2,T.2.2.2.2.1,T.2.2.2.2.2.1,T.2.2.2.2.2.2,0) else recOr R k :=
    zgM h (w.1,w.2,T.2.2.2.2.1,T.2.2.2.2.2.1,T.2.2.2.2.2.2,0) k
   have hs:SK kR (inStep T R w):=zcE h
   obtain⟨i1,i2⟩:=zdk (T:=T) W hs k
   rw[e]
   constructor
   · intro hex
     by_cases c:∃v∈W,v.1=k
     · obtain⟨v,hv,hk,he⟩:=i1 c
       exact⟨v,List.mem_cons_of_mem _ hv,hk,he⟩
     · obtain⟨v,hv,hk⟩:=hex
       rcases List.mem_cons.1 hv with rfl|hv
       ·exact⟨v,List.mem_cons_self,hk,by rw[i2 fun u hu hk=>c ⟨u,hu,hk⟩,h1,if_pos hk.symm]⟩
       ·exact absurd ⟨v,hv,hk⟩ c
   · intro hno
     rw[i2 fun v hv=>hno v (List.mem_cons_of_mem _ hv),h1,if_neg (fun e=>hno w List.mem_cons_self e.symm)]
def KK (R:List Rc):Prop:=∀r∈R,K4 r.1
theorem zkD {R:List Rc}(h:SK kR R)(hk:KK R){r:Rc}(hr:K4 r.1):KK (putG kR r R):=fun q hq=>by
 rcases (zbI h).1 hq with rfl|⟨h1,_⟩
 ·exact hr
 ·exact hk q h1
theorem zl7 {R:List Rc}(hk:KK R)(id:Int):KK (lvP R id):=fun q hq=>by
 obtain⟨r,hr,rfl⟩:=List.mem_map.1 hq
 rw[zhw];exact hk r hr
theorem zlr {id:Int}:∀{R:List Rc} (W:List Cl),SK kR R->KK R->(∀w∈W,K4 w.1)->KK (lkR id R W)
 |R,[],h,hk,hw=>hk
 |R,w::W,h,hk,hw=>zlr W (ze0 h w) (zkD h hk (by rw[show (setOwn (recOr R w.1) id true).1=w.1 from zcW R w.1];exact hw w List.mem_cons_self)) fun v hv=>hw v (List.mem_cons_of_mem _ hv)
theorem zly {T:Tn}:∀{R:List Rc} (W:List Cl),SK kR R->KK R->(∀w∈W,K4 w.1)->KK (inR T R W)
 |R,[],h,hk,hw=>hk
 |R,w::W,h,hk,hw=>zly (R:=inStep T R w) W (zcE h) (zkD h hk (hw w List.mem_cons_self)) fun v hv=>hw v (List.mem_cons_of_mem _ hv)
abbrev stT (T:Tn):Int:=T.2.1
abbrev lkT (T:Tn):List Lk:=T.2.2.1
abbrev wrT (T:Tn):List Cl:=T.2.2.2.1
abbrev teT (T:Tn):Int:=T.2.2.2.2.1
abbrev tnT (T:Tn):Int:=T.2.2.2.2.2.1
abbrev tfT (T:Tn):Bool:=T.2.2.2.2.2.2
abbrev atX (X:List Tn)(t:Nat):Tn:=X.getD t T0
structure TW (T:Tn)(t:Nat):Prop where
 id:T.1=(t:Int)+1
 st:1<=stT T/\stT T<=5
 ln:((lkT T).map (·.1)).Nodup
 lg:∀l∈lkT T,K4 l.1/\isVl l.2.1=true/\isTd l.2.2.1 l.2.2.2.1=true/\l.2.2.2.2=false
 ws:SK kC (wrT T)
 wg:∀w∈wrT T,K4 w.1/\isVl w.2=true
 td:isTd (teT T) (tnT T)=true/\tfT T=false
structure WB (R:List Rc)(X:List Tn):Prop where
 rk:SK kR R
 kk:KK R
 rv:∀k,isVl (recOr R k).2.1=true/\isTd (recOr R k).2.2.1 (recOr R k).2.2.2.1=true
 xl:X.length<=20
 tw:∀t,t<X.length->TW (atX X t) t
structure GS (e:Int)(R:List Rc)(X:List Tn)(O:List Int):Prop where
 he:1<=e/\e<=1000
 re:∀k,(recOr R k).2.2.1<=e/\lockR (recOr R k) = !decide (ownR (recOr R k)=0) /\
  (ownR (recOr R k)=0\/∃t:Nat,t<X.length/\ownR (recOr R k)=(t:Int)+1/\(stT (atX X t)=2\/stT (atX X t)=3)/\∃w∈wrT (atX X t),w.1=k)
 xs:∀t,t<X.length->(stT (atX X t)=3\/stT (atX X t)=4)\/(teT (atX X t)=0/\tnT (atX X t)=0)
 xo:∀t,t<X.length->(stT (atX X t)=2\/stT (atX X t)=3)->∀w∈wrT (atX X t),ownR (recOr R w.1)=(t:Int)+1
 on:O.Nodup
 oi:∀o,o∈O ↔ ∃t:Nat,t<X.length/\o=(t:Int)+1/\(stT (atX X t)=3\/stT (atX X t)=4)
def TE (e:Int)(X:List Tn):Prop:=∀t,t<X.length->teT (atX X t)<=e
def tdLt (a b c d:Int):Prop:=a<c\/(a=c/\b<d)
def CK (X:List Tn)(a b:Int):Prop:=∀x∈wrT (atX X (a-1).toNat),∀y∈wrT (atX X (b-1).toNat),x.1=y.1 ->
 tdLt (teT (atX X (a-1).toNat)) (tnT (atX X (a-1).toNat)) (teT (atX X (b-1).toNat)) (tnT (atX X (b-1).toNat))
structure PI'(R:List Rc)(X:List Tn)(O:List Int):Prop where
 p1:O.Pairwise (CK X)
 p2:∀t,t<X.length->stT (atX X t)=3->∀w∈wrT (atX X t),tdLt (recOr R w.1).2.2.1 (recOr R w.1).2.2.2.1 (teT (atX X t)) (tnT (atX X t))
 p3:∀t,t<X.length->stT (atX X t)=4->∀w∈wrT (atX X t),¬tdLt (recOr R w.1).2.2.1 (recOr R w.1).2.2.2.1 (teT (atX X t)) (tnT (atX X t))
theorem zhZ {X:List Tn}{T:Tn}(h:T∈X):∃t,t<X.length/\atX X t=T:=by
 obtain⟨t,h1,h2⟩:=List.mem_iff_getElem.1 h
 exact⟨t,h1,by simp[h1,h2]⟩
theorem TW.few{T:Tn}{t:Nat}(h:TW T t):T.2.2.1.length<=4/\T.2.2.2.1.length<=4 :=
 ⟨zby h.ln fun l hl=>(h.lg l hl).1,zby (zcr h.ws) fun w hw=>(h.wg w hw).1⟩
theorem GS.oin{e:Int}{R:List Rc}{X:List Tn}{O:List Int}(h:GS e R X O)(hx:X.length<=20):O.length<=20:=by
 have:=List.Nodup.length_le_of_subset (l₂:=(List.range X.length).map fun t:Nat=>(t:Int)+1) h.on (fun o ho=>by
  obtain⟨t,h1,h2,_⟩:=(h.oi o).1 ho
  exact List.mem_map.2 ⟨t,List.mem_range.2 h1,h2.symm⟩)
 simp at this;omega
theorem WB.ss{e:Int}{R:List Rc}{X:List Tn}{O:List Int}(h:WB R X)(g:GS e R X O):SS e R X O:=by
 have hf:∀T∈X,T.2.2.1.length<=4/\T.2.2.2.1.length<=4:=fun T hT=>by
  obtain⟨t,h1,rfl⟩:=zhZ hT
  exact (h.tw t h1).few
 have hr:R.length<=4:=zby (zcr h.rk) h.kk
 have hrec:∀r∈R,recOr R r.1=r:=fun r hr=>zcj h.rk hr
 exact {
  ws:={
   rl:=by omega
   xl:=h.xl
   rk:=h.rk
   rg:=fun r hr=>by
    have:=(g.re r.1).2.1
    rw[hrec r hr]at this
    rw[this];simp
   wk:=fun T hT=>by
    obtain⟨t,h1,rfl⟩:=zhZ hT
    exact (h.tw t h1).ws
   wl:=fun T hT=>by have:=hf T hT;omega
   ll:=fun T hT=>by have:=hf T hT;omega }
  rg:=fun r hr=>by
   have h1:=h.rv r.1
   have h2:=g.re r.1
   rw[hrec r hr]at h1 h2
   exact⟨h1.2,h2.1⟩
  he:=by have:=g.he;omega
  ol:=by have:=g.oin h.xl;omega
  few:=fun T hT=>by have:=hf T hT;omega
  rf:=by omega
  id:=fun t ht=>(h.tw t ht).id
  lk:=fun T hT l hl=>by
   obtain⟨t,h1,rfl⟩:=zhZ hT
   exact ((h.tw t h1).lg l hl).2.2.2
  own:=fun T hT hs w hw=>by
   obtain⟨t,h1,rfl⟩:=zhZ hT
   have:=g.xo t h1 hs w hw
   rcases recOr_cases h.rk w.1 with⟨_,_,c⟩|⟨_,c,_⟩
   ·exact c
   · rw[c]at this
     have:(0:Int)=(t:Int)+1:=this
     omega }
structure KP (e:Int)(R:List Rc)(X:List Tn)(O:List Int)(R':List Rc)(X':List Tn)(O':List Int):Prop where
 wb:WB R' X'
 gs:GS e R' X' O'
 te:TE e X'
 pi:PI' R X O->PI' R' X' O'
theorem toN (t:Nat):((t:Int)+1-1).toNat=t:=by omega
theorem WB.set{R:List Rc}{X:List Tn}(h:WB R X){t:Nat}(ht:t<X.length){T:Tn}(hT:TW T t){R':List Rc}(rk:SK kR R')(kk:KK R')
 (rv:∀k,isVl (recOr R' k).2.1=true/\isTd (recOr R' k).2.2.1 (recOr R' k).2.2.2.1=true):WB R' (X.set t T) where
 rk:=rk
 kk:=kk
 rv:=rv
 xl:=by rw[List.length_set];exact h.xl
 tw s hs:=by
  rw[List.length_set]at hs
  show TW ((X.set t T).getD s T0) s
  rw[zl3 ht]
  split
  ·rename_i c;rw[c];exact hT
  ·exact h.tw s hs
theorem TE.set{e:Int}{X:List Tn}(h:TE e X){t:Nat}(ht:t<X.length){T:Tn}(hT:teT T<=e):TE e (X.set t T):=fun s hs=>by
 rw[List.length_set]at hs
 show teT ((X.set t T).getD s T0)<=e
 rw[zl3 ht]
 split
 ·exact hT
 ·exact h s hs
theorem zcH {X:List Tn}{t:Nat}(ht:t<X.length)(T:Tn):atX (X.set t T) t=T/\∀s,s≠t->atX (X.set t T) s=atX X s :=
 ⟨by show (X.set t T).getD t T0=T;rw[zl3 ht,if_pos rfl],fun s hs=>by show (X.set t T).getD s T0=_;rw[zl3 ht,if_neg hs]⟩
theorem GS.mem{e:Int}{R:List Rc}{X:List Tn}{O:List Int}(g:GS e R X O){o:Int}(ho:o∈O):∃s:Nat,s<X.length/\o=(s:Int)+1/\(o-1).toNat=s/\(stT (atX X s)=3\/stT (atX X s)=4):=by
 obtain⟨s,h1,h2,h3⟩:=(g.oi o).1 ho
 exact⟨s,h1,h2,by omega,h3⟩
theorem GS.not{e:Int}{R:List Rc}{X:List Tn}{O:List Int}{t:Nat}(g:GS e R X O)(ht:t<X.length)(h3:stT (atX X t)≠3)(h4:stT (atX X t)≠4){o:Int}(ho:o∈O):(o-1).toNat≠t:=by
 obtain⟨s,h1,h2,h5,h6⟩:=g.mem ho
 rw[h5];rintro rfl
 rcases h6 with h|h
 ·exact h3 h
 ·exact h4 h
theorem CK.same{X X':List Tn}{a b:Int}(ha:wrT (atX X' (a-1).toNat)=wrT (atX X (a-1).toNat)/\teT (atX X' (a-1).toNat)=teT (atX X (a-1).toNat)/\tnT (atX X' (a-1).toNat)=tnT (atX X (a-1).toNat))
 (hb:wrT (atX X' (b-1).toNat)=wrT (atX X (b-1).toNat)/\teT (atX X' (b-1).toNat)=teT (atX X (b-1).toNat)/\tnT (atX X' (b-1).toNat)=tnT (atX X (b-1).toNat)) (h:CK X a b):CK X' a b:=by
 intro x hx y hy hxy
 rw[ha.1]at hx
 rw[hb.1]at hy
 rw[ha.2.1,ha.2.2,hb.2.1,hb.2.2]
 exact h x hx y hy hxy
theorem zif {e:Int}{R:List Rc}{X:List Tn}{O:List Int}{t:Nat}(h:WB R X)(g:GS e R X O)(te:TE e X)(ht:t<X.length)(hs:stT (atX X t)=1){T:Tn}(hT:TW T t)(hs':stT T=1)(h5:teT T=teT (atX X t))(h6:tnT T=tnT (atX X t)) :
 KP e R X O R (X.set t T) O where
 wb:=h.set ht hT h.rk h.kk h.rv
 te:=te.set ht (by rw[h5];exact te t ht)
 gs := by
  obtain⟨a1,a2⟩:=zcH ht T
  have ne:∀s,stT (atX X s)=2\/stT (atX X s)=3\/stT (atX X s)=4->s≠t:=by rintro s c rfl;rw[hs]at c;omega
  exact {
   he:=g.he
   re := fun k => by
    obtain⟨b1,b2,b3⟩:=g.re k
    refine⟨b1,b2,?_⟩
    rcases b3 with b3|⟨s,c1,c2,c3,c4⟩
    ·exact .inl b3
    · have hne:=ne s (c3.imp id Or.inl)
      exact .inr ⟨s,by rw[List.length_set];exact c1,c2,by rw[a2 s hne];exact c3,by rw[a2 s hne];exact c4⟩
   xs := fun s hl => by
    rw[List.length_set]at hl
    by_cases c:s=t
    · subst c
      rw[a1,h5,h6]
      rcases g.xs s hl with c|c
      ·rw[hs]at c;omega
      ·exact .inr c
    ·rw[a2 s c];exact g.xs s hl
   xo:=fun s hl=>by
    rw[List.length_set]at hl
    by_cases c:s=t
    ·subst c;rw[a1,hs'];intro c;omega
    ·rw[a2 s c];exact g.xo s hl
   on:=g.on
   oi := fun o => by
    rw[g.oi]
    constructor
    · rintro⟨s,c1,c2,c3⟩
      have hne:=ne s (Or.inr c3)
      exact⟨s,by rw[List.length_set];exact c1,c2,by rw[a2 s hne];exact c3⟩
    · rintro⟨s,c1,c2,c3⟩
      rw[List.length_set]at c1
      by_cases c:s=t
      ·subst c;rw[a1,hs']at c3;omega
      ·rw[a2 s c]at c3;exact⟨s,c1,c2,c3⟩ }
 pi := fun p => by
  obtain⟨a1,a2⟩:=zcH ht T
  have nO:∀o∈O,(o-1).toNat≠t:=fun o ho=>g.not ht (by rw[hs];omega) (by rw[hs];omega) ho
  exact {
   p1:=List.Pairwise.imp_of_mem (fun {a b} ha hb hc=>CK.same (by rw[a2 _ (nO a ha)];exact⟨rfl,rfl,rfl⟩) (by rw[a2 _ (nO b hb)];exact⟨rfl,rfl,rfl⟩) hc) p.p1
   p2:=fun s hl=>by
    rw[List.length_set]at hl
    by_cases c:s=t
    ·subst c;rw[a1,hs'];intro c;omega
    ·rw[a2 s c];exact p.p2 s hl
   p3:=fun s hl=>by
    rw[List.length_set]at hl
    by_cases c:s=t
    ·subst c;rw[a1,hs'];intro c;omega
    ·rw[a2 s c];exact p.p3 s hl }
theorem zkT (n:Nat):TW (newT ((n:Int)+1)) n where
 id:=rfl
 st:=by show (1:Int)<=1/\(1:Int)<=5;omega
 ln:=List.nodup_nil
 lg:=fun l hl=>by cases hl
 ws:=List.Pairwise.nil
 wg:=fun l hl=>by cases hl
 td:=⟨by show isTd 0 0=true;decide,rfl⟩
theorem zkg {e : Int} {R : List Rc} {X : List Tn} {O : List Int} (h : WB R X) (g : GS e R X O) (te : TE e X) (hl : X.length < 20) : KP e R X O R (X ++ [newT ((X.length : Int) + 1)]) O := by
 have a1:atX (X ++ [newT ((X.length:Int)+1)]) X.length=newT ((X.length:Int)+1):=zhc X _
 have a2:∀s,s<X.length->atX (X ++ [newT ((X.length:Int)+1)]) s=atX X s:=fun s hs=>zl6 _ hs
 have ll:(X ++ [newT ((X.length:Int)+1)]).length=X.length+1:=by simp
 have cs:∀s,s<(X ++ [newT ((X.length:Int)+1)]).length->s=X.length\/s<X.length:=fun s hs=>by rw[ll]at hs;omega
 exact {
  wb:={
   rk:=h.rk
   kk:=h.kk
   rv:=h.rv
   xl:=by rw[ll];omega
   tw:=fun s hs=>by
    rcases cs s hs with rfl|hs
    ·rw[a1];exact zkT _
    ·rw[a2 s hs];exact h.tw s hs }
  te:=fun s hs=>by
   rcases cs s hs with rfl|hs
   ·rw[a1];have:=g.he;show (0:Int)<=e;omega
   ·rw[a2 s hs];exact te s hs
  gs := {
   he:=g.he
   re:=fun k=>by
    obtain⟨b1,b2,b3⟩:=g.re k
    refine⟨b1,b2,?_⟩
    rcases b3 with b3|⟨s,c1,c2,c3,c4⟩
    ·exact .inl b3
    ·exact .inr ⟨s,by rw[ll];omega,c2,by rw[a2 s c1];exact c3,by rw[a2 s c1];exact c4⟩
   xs:=fun s hs=>by
    rcases cs s hs with rfl|hs
    ·rw[a1];exact .inr ⟨rfl,rfl⟩
    ·rw[a2 s hs];exact g.xs s hs
   xo:=fun s hs=>by
    rcases cs s hs with rfl|hs
    ·rw[a1];intro _ w hw;cases hw
    ·rw[a2 s hs];exact g.xo s hs
   on:=g.on
   oi := fun o => by
    rw[g.oi]
    constructor
    · rintro⟨s,c1,c2,c3⟩
      exact⟨s,by rw[ll];omega,c2,by rw[a2 s c1];exact c3⟩
    · rintro⟨s,c1,c2,c3⟩
      rcases cs s c1 with rfl|hs
      · rw[a1]at c3
        have:(1:Int)=3\/(1:Int)=4:=c3
        omega
      ·rw[a2 s hs]at c3;exact⟨s,hs,c2,c3⟩ }
  pi:=fun p=>{
   p1:=List.Pairwise.imp_of_mem (fun {a b} ha hb hc=>by
    obtain⟨s,c1,_,c3,_⟩:=g.mem ha
    obtain⟨u,d1,_,d3,_⟩:=g.mem hb
    exact CK.same (by rw[c3,a2 s c1];exact⟨rfl,rfl,rfl⟩) (by rw[d3,a2 u d1];exact⟨rfl,rfl,rfl⟩) hc) p.p1
   p2:=fun s hs=>by
    rcases cs s hs with rfl|hs
    ·rw[a1];intro _ w hw;cases hw
    ·rw[a2 s hs];exact p.p2 s hs
   p3:=fun s hs=>by
    rcases cs s hs with rfl|hs
    ·rw[a1];intro _ w hw;cases hw
    ·rw[a2 s hs];exact p.p3 s hs } }
theorem zkW {a b c d e n:Int}(h1:tdLt a b e n)(h2:¬tdLt a b c d):tdLt c d e n:=by
 unfold tdLt at *;omega
theorem zfq {a b c d e n:Int}(h1:tdLt a b c d)(h2:tdLt c d e n):tdLt a b e n:=by
 unfold tdLt at *;omega
theorem TW.setSt{t:Nat}{T:Tn}(h:TW T t){s:Int}(hs:1<=s/\s<=5):TW (setState T s) t where
 id:=h.id
 st:=hs
 ln:=h.ln
 lg:=h.lg
 ws:=h.ws
 wg:=h.wg
 td:=h.td
theorem zjK {e : Int} {R : List Rc} {X : List Tn} {O : List Int} {t : Nat} (h : WB R X) (g : GS e R X O) (te : TE e X) (ht : t < X.length) (hs : stT (atX X t) = 1) (hf : ∀ w ∈ wrT (atX X t), ownR (recOr R w.1) = 0) :
 KP e R X O (lkR ((t:Int)+1) R (wrT (atX X t))) (X.set t (setState (atX X t) 2)) O:=by
 obtain⟨a1,a2⟩:=zcH ht (setState (atX X t) 2)
 have l1:∀k,(∃w∈wrT (atX X t),w.1=k)->recOr (lkR ((t:Int)+1) R (wrT (atX X t))) k=setOwn (recOr R k) ((t:Int)+1) true:=fun k=>(zed (id:=(t:Int)+1) (wrT (atX X t)) h.rk k).1
 have l2:∀k,(¬∃w∈wrT (atX X t),w.1=k)->recOr (lkR ((t:Int)+1) R (wrT (atX X t))) k=recOr R k:=fun k hn=>(zed (id:=(t:Int)+1) (wrT (atX X t)) h.rk k).2 fun w hw hk=>hn ⟨w,hw,hk⟩
 have lt:∀k,(recOr (lkR ((t:Int)+1) R (wrT (atX X t))) k).2.1=(recOr R k).2.1/\(recOr (lkR ((t:Int)+1) R (wrT (atX X t))) k).2.2.1=(recOr R k).2.2.1/\(recOr (lkR ((t:Int)+1) R (wrT (atX X t))) k).2.2.2.1=(recOr R k).2.2.2.1:=fun k=>by
  by_cases c:∃w∈wrT (atX X t),w.1=k
  ·rw[l1 k c];exact⟨rfl,rfl,rfl⟩
  ·rw[l2 k c];exact⟨rfl,rfl,rfl⟩
 have ne:∀s,stT (atX X s)=2\/stT (atX X s)=3\/stT (atX X s)=4->s≠t:=by rintro s c rfl;rw[hs]at c;omega
 have nO:∀o∈O,(o-1).toNat≠t:=fun o ho=>g.not ht (by rw[hs];omega) (by rw[hs];omega) ho
 exact {
  wb:=h.set ht ((h.tw t ht).setSt (by omega)) (zjG h.rk _) (zlr _ h.rk h.kk fun w hw=>((h.tw t ht).wg w hw).1) fun k=>by
   rw[(lt k).1,(lt k).2.1,(lt k).2.2];exact h.rv k
  te:=te.set ht (te t ht)
  gs := {
   he:=g.he
   re := fun k => by
    obtain⟨b1,b2,b3⟩:=g.re k
    by_cases c:∃w∈wrT (atX X t),w.1=k
    · rw[l1 k c]
      refine⟨b1,?_,.inr ⟨t,by rw[List.length_set];exact ht,rfl,?_,?_⟩⟩
      · show true = !decide ((t:Int)+1=0)
        rw[decide_eq_false (by omega)];rfl
      ·rw[a1];exact .inl rfl
      ·rw[a1];exact c
    · rw[l2 k c]
      refine⟨b1,b2,?_⟩
      rcases b3 with b3|⟨s,c1,c2,c3,c4⟩
      ·exact .inl b3
      · have hne:=ne s (c3.imp id Or.inl)
        exact .inr ⟨s,by rw[List.length_set];exact c1,c2,by rw[a2 s hne];exact c3,by rw[a2 s hne];exact c4⟩
   xs := fun s hl => by
    rw[List.length_set]at hl
    by_cases c:s=t
    · subst c
      rw[a1]
      rcases g.xs s hl with c|c
      ·rw[hs]at c;omega
      ·exact .inr c
    ·rw[a2 s c];exact g.xs s hl
   xo := fun s hl => by
    rw[List.length_set]at hl
    by_cases c:s=t
    · subst c
      rw[a1]
      intro _ w hw
      rw[l1 w.1 ⟨w,hw,rfl⟩]
    · rw[a2 s c]
      intro hst w hw
      have h0:=g.xo s hl hst w hw
      rw[l2 w.1 fun⟨v,hv,hk⟩=>by
       have:=hf v hv
       rw[hk,h0]at this
       omega]
      exact h0
   on:=g.on
   oi := fun o => by
    rw[g.oi]
    constructor
    · rintro⟨s,c1,c2,c3⟩
      have hne:=ne s (Or.inr c3)
      exact⟨s,by rw[List.length_set];exact c1,c2,by rw[a2 s hne];exact c3⟩
    · rintro⟨s,c1,c2,c3⟩
      rw[List.length_set]at c1
      by_cases c:s=t
      · subst c;rw[a1]at c3
        have:(2:Int)=3\/(2:Int)=4:=c3
        omega
      ·rw[a2 s c]at c3;exact⟨s,c1,c2,c3⟩ }
  pi:=fun p=>{
   p1:=List.Pairwise.imp_of_mem (fun {a b} ha hb hc=>CK.same (by rw[a2 _ (nO a ha)];exact⟨rfl,rfl,rfl⟩) (by rw[a2 _ (nO b hb)];exact⟨rfl,rfl,rfl⟩) hc) p.p1
   p2 := fun s hl => by
    rw[List.length_set]at hl
    by_cases c:s=t
    · subst c;rw[a1];intro c
      have:(2:Int)=3:=c
      omega
    ·rw[a2 s c];intro hst w hw;rw[(lt w.1).2.1,(lt w.1).2.2];exact p.p2 s hl hst w hw
   p3 := fun s hl => by
    rw[List.length_set]at hl
    by_cases c:s=t
    · subst c;rw[a1];intro c
      have:(2:Int)=4:=c
      omega
    ·rw[a2 s c];intro hst w hw;rw[(lt w.1).2.1,(lt w.1).2.2];exact p.p3 s hl hst w hw } }
theorem zf9 {e : Int} {R : List Rc} {X : List Tn} {O : List Int} {t : Nat} (h : WB R X) (g : GS e R X O) (te : TE e X) (ht : t < X.length) (hs : stT (atX X t) = 1 \/ stT (atX X t) = 2) :
 KP e R X O (lvP R ((t:Int)+1)) (X.set t (setState (atX X t) 5)) O:=by
 obtain⟨a1,a2⟩:=zcH ht (setState (atX X t) 5)
 have l1:∀k,recOr (lvP R ((t:Int)+1)) k=lvR ((t:Int)+1) (recOr R k):=fun k=>zhX h.rk (by omega) k
 have lt:∀k,(recOr (lvP R ((t:Int)+1)) k).2.1=(recOr R k).2.1/\(recOr (lvP R ((t:Int)+1)) k).2.2.1=(recOr R k).2.2.1/\(recOr (lvP R ((t:Int)+1)) k).2.2.2.1=(recOr R k).2.2.2.1:=fun k=>by
  rw[l1 k];unfold lvR;split<;>exact⟨rfl,rfl,rfl⟩
 have ne:∀s,stT (atX X s)=3\/stT (atX X s)=4->s≠t:=by rintro s c rfl;omega
 have nO:∀o∈O,(o-1).toNat≠t:=fun o ho=>g.not ht (by omega) (by omega) ho
 exact {
  wb:=h.set ht ((h.tw t ht).setSt (by omega)) (zjV h.rk _) (zl7 h.kk _) fun k=>by
   rw[(lt k).1,(lt k).2.1,(lt k).2.2];exact h.rv k
  te:=te.set ht (te t ht)
  gs := {
   he:=g.he
   re := fun k => by
    obtain⟨b1,b2,b3⟩:=g.re k
    refine⟨by rw[(lt k).2.1];exact b1,?_⟩
    rw[l1 k]
    unfold lvR
    by_cases c:ownR (recOr R k)=(t:Int)+1
    · rw[if_pos c]
      exact⟨rfl,.inl rfl⟩
    · rw[if_neg c]
      refine⟨b2,?_⟩
      rcases b3 with b3|⟨s,c1,c2,c3,c4⟩
      ·exact .inl b3
      · have hne:s≠t:=by rintro rfl;exact c c2
        exact .inr ⟨s,by rw[List.length_set];exact c1,c2,by rw[a2 s hne];exact c3,by rw[a2 s hne];exact c4⟩
   xs := fun s hl => by
    rw[List.length_set]at hl
    by_cases c:s=t
    · subst c
      rw[a1]
      rcases g.xs s hl with c|c
      ·omega
      ·exact .inr c
    ·rw[a2 s c];exact g.xs s hl
   xo := fun s hl => by
    rw[List.length_set]at hl
    by_cases c:s=t
    · subst c
      rw[a1]
      intro c
      have:(5:Int)=2\/(5:Int)=3:=c
      omega
    · rw[a2 s c]
      intro hst w hw
      have h0:=g.xo s hl hst w hw
      rw[l1]
      unfold lvR
      rw[if_neg (by rw[h0];omega)]
      exact h0
   on:=g.on
   oi := fun o => by
    rw[g.oi]
    constructor
    · rintro⟨s,c1,c2,c3⟩
      have hne:=ne s c3
      exact⟨s,by rw[List.length_set];exact c1,c2,by rw[a2 s hne];exact c3⟩
    · rintro⟨s,c1,c2,c3⟩
      rw[List.length_set]at c1
      by_cases c:s=t
      · subst c;rw[a1]at c3
        have:(5:Int)=3\/(5:Int)=4:=c3
        omega
      ·rw[a2 s c]at c3;exact⟨s,c1,c2,c3⟩ }
  pi:=fun p=>{
   p1:=List.Pairwise.imp_of_mem (fun {a b} ha hb hc=>CK.same (by rw[a2 _ (nO a ha)];exact⟨rfl,rfl,rfl⟩) (by rw[a2 _ (nO b hb)];exact⟨rfl,rfl,rfl⟩) hc) p.p1
   p2 := fun s hl => by
    rw[List.length_set]at hl
    by_cases c:s=t
    · subst c;rw[a1];intro c
      have:(5:Int)=3:=c
      omega
    ·rw[a2 s c];intro hst w hw;rw[(lt w.1).2.1,(lt w.1).2.2];exact p.p2 s hl hst w hw
   p3 := fun s hl => by
    rw[List.length_set]at hl
    by_cases c:s=t
    · subst c;rw[a1];intro c
      have:(5:Int)=4:=c
      omega
    ·rw[a2 s c];intro hst w hw;rw[(lt w.1).2.1,(lt w.1).2.2];exact p.p3 s hl hst w hw } }
theorem ziD {e : Int} {R : List Rc} {X : List Tn} {O : List Int} {t : Nat} (h : WB R X) (g : GS e R X O) (te : TE e X) (ht : t < X.length) (hs : stT (atX X t) = 2) {n : Int} (hn : 0 <= n /\ n <= 16777215)
 (hb:∀w∈wrT (atX X t),tdLt (recOr R w.1).2.2.1 (recOr R w.1).2.2.2.1 e n) :
 KP e R X O R (X.set t ((atX X t).1,3,lkT (atX X t),wrT (atX X t),e,n,false)) (O ++ [(t:Int)+1]):=by
 obtain⟨a1,a2⟩:=zcH ht ((atX X t).1,3,lkT (atX X t),wrT (atX X t),e,n,false)
 have hw:=h.tw t ht
 have he:=g.he
 have ne:∀s,stT (atX X s)=3\/stT (atX X s)=4->s≠t:=by rintro s c rfl;omega
 have nO:∀o∈O,(o-1).toNat≠t:=fun o ho=>g.not ht (by omega) (by omega) ho
 exact {
  wb:=h.set ht (T:=((atX X t).1,3,lkT (atX X t),wrT (atX X t),e,n,false)) {
   id:=hw.id
   st:=by show (1:Int)<=3/\(3:Int)<=5;omega
   ln:=hw.ln
   lg:=hw.lg
   ws:=hw.ws
   wg:=hw.wg
   td:=⟨by show isTd e n=true;simp only[isTd,Bool.and_eq_true,decide_eq_true_eq];omega,rfl⟩ } h.rk h.kk h.rv
  te:=te.set ht (Int.le_refl _)
  gs := {
   he:=g.he
   re := fun k => by
    obtain⟨b1,b2,b3⟩:=g.re k
    refine⟨b1,b2,?_⟩
    rcases b3 with b3|⟨s,c1,c2,c3,c4⟩
    ·exact .inl b3
    · refine .inr ⟨s,by rw[List.length_set];exact c1,c2,?_,?_⟩
      · by_cases c:s=t
        ·subst c;rw[a1];exact .inr rfl
        ·rw[a2 s c];exact c3
      · by_cases c:s=t
        ·subst c;rw[a1];exact c4
        ·rw[a2 s c];exact c4
   xs:=fun s hl=>by
    rw[List.length_set]at hl
    by_cases c:s=t
    ·subst c;rw[a1];exact .inl (.inl rfl)
    ·rw[a2 s c];exact g.xs s hl
   xo:=fun s hl=>by
    rw[List.length_set]at hl
    by_cases c:s=t
    ·subst c;rw[a1];intro _;exact g.xo s hl (.inl hs)
    ·rw[a2 s c];exact g.xo s hl
   on:=by
    rw[List.nodup_append]
    refine⟨g.on,by simp,fun a ha b hb'=>?_⟩
    simp only[List.mem_cons,List.not_mem_nil,or_false]at hb'
    subst hb'
    intro hh
    exact nO a ha (by rw[hh];exact toN t)
   oi := fun o => by
    rw[List.mem_append,g.oi]
    constructor
    · rintro (⟨s,c1,c2,c3⟩|c)
      · have hne:=ne s c3
        exact⟨s,by rw[List.length_set];exact c1,c2,by rw[a2 s hne];exact c3⟩
      · simp only[List.mem_cons,List.not_mem_nil,or_false]at c
        exact⟨t,by rw[List.length_set];exact ht,c,by rw[a1];exact .inl rfl⟩
    · rintro⟨s,c1,c2,c3⟩
      rw[List.length_set]at c1
      by_cases c:s=t
      ·subst c;exact .inr (by simp[c2])
      ·rw[a2 s c]at c3;exact .inl ⟨s,c1,c2,c3⟩ }
  pi:=fun p=>{
   p1 := by
    rw[List.pairwise_append]
    refine⟨List.Pairwise.imp_of_mem (fun {a b} ha hb hc=>CK.same (by rw[a2 _ (nO a ha)];exact⟨rfl,rfl,rfl⟩) (by rw[a2 _ (nO b hb)];exact⟨rfl,rfl,rfl⟩) hc) p.p1,by simp,fun a ha b hb'=>?_⟩
    simp only[List.mem_cons,List.not_mem_nil,or_false]at hb'
    subst hb'
    obtain⟨s,c1,c2,c3,c4⟩:=g.mem ha
    have hne:=ne s c4
    intro x hx y hy hxy
    rw[c3,a2 s hne]at hx ⊢
    rw[toN,a1]at hy ⊢
    have h1:=hb y hy
    rw[<- hxy]at h1
    rcases c4 with c4|c4
    · have h2:=g.xo s c1 (.inr c4) x hx
      have h3:=g.xo t ht (.inl hs) y hy
      rw[<- hxy,h2]at h3
      omega
    · have h2:=p.p3 s c1 c4 x hx
      exact zkW h1 h2
   p2:=fun s hl=>by
    rw[List.length_set]at hl
    by_cases c:s=t
    ·subst c;rw[a1];intro _;exact hb
    ·rw[a2 s c];exact p.p2 s hl
   p3 := fun s hl => by
    rw[List.length_set]at hl
    by_cases c:s=t
    · subst c;rw[a1];intro c
      have:(3:Int)=4:=c
      omega
    ·rw[a2 s c];exact p.p3 s hl } }
theorem zgW {e : Int} {R : List Rc} {X : List Tn} {O : List Int} {t : Nat} (h : WB R X) (g : GS e R X O) (te : TE e X) (ht : t < X.length) (hs : stT (atX X t) = 3) :
 KP e R X O (inR (atX X t) R (wrT (atX X t))) (X.set t (setState (atX X t) 4)) O:=by
 obtain⟨a1,a2⟩:=zcH ht (setState (atX X t) 4)
 have hw:=h.tw t ht
 have l1:∀k,(∃w∈wrT (atX X t),w.1=k)->∃w∈wrT (atX X t),w.1=k/\recOr (inR (atX X t) R (wrT (atX X t))) k=(w.1,w.2,teT (atX X t),tnT (atX X t),tfT (atX X t),0):=fun k=>(zdk (T:=atX X t) (wrT (atX X t)) h.rk k).1
 have l2:∀k,(¬∃w∈wrT (atX X t),w.1=k)->recOr (inR (atX X t) R (wrT (atX X t))) k=recOr R k:=fun k hn=>(zdk (T:=atX X t) (wrT (atX X t)) h.rk k).2 fun w hw hk=>hn ⟨w,hw,hk⟩
 have own:∀k,(∃w∈wrT (atX X t),w.1=k)->ownR (recOr R k)=(t:Int)+1:=by
  rintro k ⟨w,hw,rfl⟩
  exact g.xo t ht (.inr hs) w hw
 have far:∀s,s<X.length->s≠t->(stT (atX X s)=2\/stT (atX X s)=3)->∀w∈wrT (atX X s),recOr (inR (atX X t) R (wrT (atX X t))) w.1=recOr R w.1:=fun s hl hne hst w hw =>
  l2 w.1 fun hk=>by
   have h1:=own _ hk
   have h2:=g.xo s hl hst w hw
   omega
 have sm:∀s,s<X.length->wrT (atX (X.set t (setState (atX X t) 4)) s)=wrT (atX X s)/\teT (atX (X.set t (setState (atX X t) 4)) s)=teT (atX X s)/\tnT (atX (X.set t (setState (atX X t) 4)) s)=tnT (atX X s):=fun s hl=>by
  by_cases c:s=t
  ·subst c;rw[a1];exact⟨rfl,rfl,rfl⟩
  ·rw[a2 s c];exact⟨rfl,rfl,rfl⟩
 exact {
  wb := h.set ht (hw.setSt (by omega)) (zjD h.rk _) (zly _ h.rk h.kk fun w hw' => (hw.wg w hw').1) fun k => by
   by_cases c:∃w∈wrT (atX X t),w.1=k
   · obtain⟨w,c1,c2,c3⟩:=l1 k c
     rw[c3]
     exact⟨(hw.wg w c1).2,hw.td.1⟩
   ·rw[l2 k c];exact h.rv k
  te:=te.set ht (te t ht)
  gs := {
   he:=g.he
   re := fun k => by
    by_cases c:∃w∈wrT (atX X t),w.1=k
    · obtain⟨w,c1,c2,c3⟩:=l1 k c
      rw[c3]
      exact⟨te t ht,hw.td.2,.inl rfl⟩
    · rw[l2 k c]
      obtain⟨b1,b2,b3⟩:=g.re k
      refine⟨b1,b2,?_⟩
      rcases b3 with b3|⟨s,c1,c2,c3,c4⟩
      ·exact .inl b3
      · have hne:s≠t:=by rintro rfl;exact c c4
        exact .inr ⟨s,by rw[List.length_set];exact c1,c2,by rw[a2 s hne];exact c3,by rw[a2 s hne];exact c4⟩
   xs:=fun s hl=>by
    rw[List.length_set]at hl
    by_cases c:s=t
    ·subst c;rw[a1];exact .inl (.inr rfl)
    ·rw[a2 s c];exact g.xs s hl
   xo := fun s hl => by
    rw[List.length_set]at hl
    by_cases c:s=t
    · subst c;rw[a1];intro c
      have:(4:Int)=2\/(4:Int)=3:=c
      omega
    ·rw[a2 s c];intro hst w hw';rw[far s hl c hst w hw'];exact g.xo s hl hst w hw'
   on:=g.on
   oi := fun o => by
    rw[g.oi]
    constructor
    · rintro⟨s,c1,c2,c3⟩
      refine⟨s,by rw[List.length_set];exact c1,c2,?_⟩
      by_cases c:s=t
      ·subst c;rw[a1];exact .inr rfl
      ·rw[a2 s c];exact c3
    · rintro⟨s,c1,c2,c3⟩
      rw[List.length_set]at c1
      by_cases c:s=t
      ·subst c;exact⟨s,c1,c2,.inl hs⟩
      ·rw[a2 s c]at c3;exact⟨s,c1,c2,c3⟩ }
  pi := fun p => {
   p1:=List.Pairwise.imp_of_mem (fun {a b} ha hb hc=>by
    obtain⟨s,c1,_,c3,_⟩:=g.mem ha
    obtain⟨u,d1,_,d3,_⟩:=g.mem hb
    exact CK.same (by rw[c3];exact sm s c1) (by rw[d3];exact sm u d1) hc) p.p1
   p2 := fun s hl => by
    rw[List.length_set]at hl
    by_cases c:s=t
    · subst c;rw[a1];intro c
      have:(4:Int)=3:=c
      omega
    ·rw[a2 s c];intro hst w hw';rw[far s hl c (.inr hst) w hw'];exact p.p2 s hl hst w hw'
   p3 := fun s hl => by
    rw[List.length_set]at hl
    by_cases c:s=t
    · subst c
      rw[a1]
      intro _ w hw'
      obtain⟨v,c1,c2,c3⟩:=l1 w.1 ⟨w,hw',rfl⟩
      rw[c3]
      show ¬tdLt (teT (atX X s)) (tnT (atX X s)) (teT (atX X s)) (tnT (atX X s))
      unfold tdLt;omega
    · rw[a2 s c]
      intro hst w hw'
      by_cases k:∃v∈wrT (atX X t),v.1=w.1
      · obtain⟨v,c1,c2,c3⟩:=l1 w.1 k
        rw[c3]
        have h2:=p.p2 t ht hs v c1
        rw[c2]at h2
        have h3:=p.p3 s hl hst w hw'
        intro h4
        exact h3 (zfq h2 h4)
      ·rw[l2 w.1 k];exact p.p3 s hl hst w hw' } }
theorem zk9 {e:Int}{l:List Td}:∀(k:Nat) {i:Nat},i<k->(l.getD i D0).1=e->(l.getD i D0).2.1<nxt e l k
 |0,i,h,_=>by omega
 | k + 1, i, h, he => by
   show _<(if (l.getD k D0).1=e then max (nxt e l k) ((l.getD k D0).2.1+1) else nxt e l k)
   by_cases c:i=k
   ·subst c;rw[if_pos he];omega
   · have:=zk9 (e:=e) (l:=l) k (i:=i) (by omega) he
     split<;>omega
theorem zli {e:Int}{l:List Td}{d:Td}(hd:d∈l)(he:d.1=e):d.2.1<nxt e l l.length:=by
 obtain⟨i,h1,h2⟩:=List.mem_iff_getElem.1 hd
 have hg:l.getD i D0=d:=by simp[h1,h2]
 have:=zk9 (e:=e) (l:=l) l.length h1 (by rw[hg];exact he)
 rw[hg]at this;exact this
theorem gd {A:Type}{l:List A}{i:Nat}(h:i<l.length)(d:A):l.getD i d=l[i]:=by simp[h]
theorem zdW {s:Int}:(wantS 2 s=true->s=1)/\(wantS 3 s=true->s=1)/\(wantS 4 s=true->s=1)/\(wantS 5 s=true->s=2)/\(wantS 6 s=true->s=3)/\(wantS 7 s=true->s=1\/s=2):=by
 refine⟨fun h=>?_,fun h=>?_,fun h=>?_,fun h=>?_,fun h=>?_,fun h=>?_⟩<;>simpa[wantS]using h
theorem zbP {e:Int}{R:List Rc}{X:List Tn}{O:List Int}(h:WB R X)(g:GS e R X O)(te:TE e X):KP e R X O R X O:=⟨h,g,te,fun p=>p⟩
theorem zkY {e:Int}{R:List Rc}{X:List Tn}{O:List Int}{t:Nat}(h:WB R X)(g:GS e R X O)(te:TE e X)(ht:t<X.length)(hs:stT (atX X t)=1){k:Tx}(hk:K4 k):KP e R X O R (rdP R X t k).1 O:=by
 unfold rdP
 split
 ·exact zbP h g te
 · split
   ·exact zbP h g te
   · rename_i hf
     split
     · rename_i ho
       split
       ·exact zbP h g te
       · have hw:=h.tw t ht
         refine zif h g te ht hs (T:=setLooks (atX X t) (lkT (atX X t) ++ [(k,(recOr R k).2.1,(recOr R k).2.2.1,(recOr R k).2.2.2.1,(recOr R k).2.2.2.2.1)])) ?_ hs rfl rfl
         have hno:∀l∈lkT (atX X t),l.1≠k:=by
          intro l hl e
          obtain⟨i,h1,h2⟩:=List.mem_iff_getElem.1 hl
          unfold firstL at hf
          rw[List.find?_eq_none]at hf
          have:=hf i (List.mem_range.2 h1)
          have hg':(X.getD t T0).2.2.1.getD i L0=l:=(gd h1 L0).trans h2
          rw[hg']at this
          simp[e]at this
         exact {
          id:=hw.id
          st:=hw.st
          ln:=by
           show ((lkT (atX X t) ++ [(k,(recOr R k).2.1,(recOr R k).2.2.1,(recOr R k).2.2.2.1,(recOr R k).2.2.2.2.1)]).map (·.1)).Nodup
           rw[List.map_append,List.nodup_append]
           refine⟨hw.ln,by simp,fun a ha b hb=>?_⟩
           obtain⟨l,hl,rfl⟩:=List.mem_map.1 ha
           simp only[List.map_cons,List.map_nil,List.mem_cons,List.not_mem_nil,or_false]at hb
           subst hb
           exact hno l hl
          lg := fun l hl => by
           rcases List.mem_append.1 hl with hl|hl
           ·exact hw.lg l hl
           · simp only[List.mem_cons,List.not_mem_nil,or_false]at hl
             subst hl
             have h1:=h.rv k
             have h2:=(g.re k).2.1
             refine⟨hk,h1.1,h1.2,?_⟩
             show lockR (recOr R k)=false
             rw[h2,decide_eq_true ho];rfl
          ws:=hw.ws
          wg:=hw.wg
          td:=hw.td }
     ·exact zbP h g te
theorem zkI {e : Int} {R : List Rc} {X : List Tn} {O : List Int} (h : WB R X) (g : GS e R X O) (te : TE e X) (x : Stp) (hk : isKy x.2.2.1 = true -> K4 x.2.2.1) : KP e R X O (SD e R X O x).1 (SD e R X O x).2.1 (SD e R X O x).2.2.1 := by
 obtain⟨k,a,y,v⟩:=x
 unfold SD
 dsimp only at hk ⊢
 by_cases c1:k=1
 · simp only[c1,if_true]
   by_cases c2:a=0
   · simp only[c2,if_true]
     by_cases c3:X.length=20
     ·simp only[c3,if_true];exact zbP h g te
     ·simp only[c3,if_false];exact zkg h g te (by have:=h.xl;omega)
   ·simp only[c2,if_false];exact zbP h g te
 · simp only[c1,if_false]
   cases hok:okSt X (k,a,y,v) with
   |false=>simp only[Bool.false_eq_true,if_false];exact zbP h g te
   | true =>
     simp only[if_true]
     have hok':=hok
     simp only[okSt,Bool.and_eq_true,decide_eq_true_eq,Bool.or_eq_true,Bool.not_eq_true',Bool.or_eq_false_iff,decide_eq_false_iff_not]at hok'
     obtain⟨⟨b1,b2⟩,⟨b3,b4⟩,b5,b6,b7⟩:=hok'
     obtain⟨t,rfl⟩:∃t:Nat,a=(t:Int)+1:=⟨(a-1).toNat,by omega⟩
     rw[toN]at b5 ⊢
     have ht:t<X.length:=by omega
     have hw:=h.tw t ht
     have h26:k=2\/k=3\/k=4\/k=5\/k=6\/k=7:=by omega
     rcases h26 with rfl|rfl|rfl|rfl|rfl|rfl
     · have hs:stT (atX X t)=1:=zdW.1 b5
       have hy:isKy y=true:=by simpa using b6
       exact zkY h g te ht hs (hk hy)
     · have hs:stT (atX X t)=1:=zdW.2.1 b5
       have hy:isKy y=true:=by simpa using b6
       have hv:isVl v=true:=by simpa using b7
       refine zif h g te ht hs (T:=setWrites (atX X t) (putG kC (y,v) (wrT (atX X t)))) ?_ hs rfl rfl
       exact {
        id:=hw.id
        st:=hw.st
        ln:=hw.ln
        lg:=hw.lg
        ws:=zcE hw.ws
        wg:=fun w hw'=>by
         rcases (zbI hw.ws).1 hw' with rfl|⟨h1,_⟩
         ·exact⟨hk hy,hv⟩
         ·exact hw.wg w h1
        td:=hw.td }
     · have hs:stT (atX X t)=1:=zdW.2.2.1 b5
       show KP e R X O (lkP R X t ((t:Int)+1)).2.1 (lkP R X t ((t:Int)+1)).1 O
       unfold lkP
       split
       ·exact zbP h g te
       · rename_i hany
         refine zjK h g te ht hs fun w hw'=>?_
         obtain⟨i,h1,h2⟩:=List.mem_iff_getElem.1 hw'
         simp only[List.any_eq_true,not_exists,not_and]at hany
         have:=hany i (List.mem_range.2 h1)
         have hg:(X.getD t T0).2.2.2.1.getD i C0=w:=(gd h1 C0).trans h2
         rw[hg]at this
         simpa using this
     · have hs:stT (atX X t)=2:=zdW.2.2.2.1 b5
       show KP e R X O (ckP e R X O t ((t:Int)+1)).1 (ckP e R X O t ((t:Int)+1)).2.1 (ckP e R X O t ((t:Int)+1)).2.2.1
       unfold ckP
       split
       ·exact zf9 h g te ht (.inr hs)
       · rename_i hbad
         split
         ·exact zbP h g te
         · rename_i hn
           have hss:=h.ss g
           have he:=g.he
           have htg:=zga hss.rg h.rk (by omega) (Bool.eq_false_iff.2 hbad) (X.getD t T0).2.2.2.1
           have hr:=zgu (e:=e) (fun d hd=>(htg d hd).1) (tds R (X.getD t T0).2.2.1 (X.getD t T0).2.2.2.1).length (Nat.le_refl _)
           refine ziD h g te ht hs (by omega) fun w hw'=>?_
           have hm:tdR (recOr R w.1)∈tds R (X.getD t T0).2.2.1 (X.getD t T0).2.2.2.1:=List.mem_append.2 (.inr (List.mem_map.2 ⟨w,hw',rfl⟩))
           have h1:=(htg _ hm).2
           have h1':(recOr R w.1).2.2.1<=e:=h1
           by_cases c:(recOr R w.1).2.2.1=e
           ·exact .inr ⟨c,zli hm c⟩
           ·exact .inl (by omega)
     · have hs:stT (atX X t)=3:=zdW.2.2.2.2.1 b5
       exact zgW h g te ht hs
     · have hs:stT (atX X t)=1\/stT (atX X t)=2:=zdW.2.2.2.2.2 b5
       exact zf9 h g te ht hs
theorem zhJ {K V:Type}[DecidableEq K]:∀(l:List (K × V)) (k k':K) (v d:V),mget (mset l k v) k' d=if k=k' then v else mget l k' d
 |[],k,k',v,d=>by simp only[mset,mget]
 | p :: l, k, k', v, d => by
   simp only[mset]
   by_cases e:p.1=k
   · rw[if_pos e]
     simp only[mget]
     by_cases e2:k=k'
     ·rw[if_pos e2,if_pos e2]
     ·rw[if_neg e2,if_neg e2,if_neg (by rw[e];exact e2)]
   · rw[if_neg e]
     simp only[mget]
     by_cases e2:p.1=k'
     ·rw[if_pos e2,if_pos e2,if_neg (fun h=>e (e2.trans h.symm))]
     ·rw[if_neg e2,if_neg e2,zhJ l k k' v d]
def mks {K:Type}[DecidableEq K](l:List K):List (K × Bool):=l.foldl (fun m o=>mset m o true) []
theorem zic {K:Type}[DecidableEq K](l:List K)(d:K){k:Nat}(hk:k<l.length):mks (l.take (k+1))=mset (mks (l.take k)) (l.getD k d) true:=by
 rw[zaq l d hk];unfold mks;rw[List.foldl_append];rfl
theorem zhQ {K:Type}[DecidableEq K](o:K):∀(l:List K) (m:List (K × Bool)),mget (l.foldl (fun m o=>mset m o true) m) o false=(decide (o∈l)||mget m o false)
 |[],m=>by simp
 | a :: l, m => by
   rw[List.foldl_cons,zhQ o l,zhJ]
   by_cases c:a=o
   ·subst c;simp
   · have c':¬o=a:=fun e=>c e.symm
     simp[c,c']
theorem zhf {K:Type}[DecidableEq K](l:List K)(o:K):mget (mks l) o false=decide (o∈l):=by
 unfold mks;rw[zhQ];simp[mget]
theorem K4.ky{k:Tx}(h:K4 k):isKy k=true/\k.length<=8:=by
 unfold K4 at h
 simp only[List.mem_cons,List.not_mem_nil,or_false]at h
 rcases h with rfl|rfl|rfl|rfl<;>exact⟨by decide,by decide⟩
theorem zlp {A:Type}{key:A->Tx}{l:List A}(h:SK key l)(d:A){k:Nat}(hk:k<l.length)(h0:0<k):Op.bytesLess (key (l.getD (k-1) d)) (key (l.getD k d))=true:=h.get d (by omega) hk
theorem zjk {A:Type}{key:A->Tx}{l:List A}(h:(l.map key).Nodup)(d:A){k:Nat}(hk:k<l.length):key (l.getD k d)∉(l.map key).take k:=by
 intro hm
 obtain⟨i,h1,h2⟩:=List.mem_iff_getElem.1 hm
 rw[List.length_take,List.length_map]at h1
 rw[List.getElem_take,List.getElem_map]at h2
 have h3:key l[i]=key l[k]:=by rw[h2];simp[hk]
 rw[List.nodup_iff_pairwise_ne,List.pairwise_map]at h
 exact List.pairwise_iff_getElem.1 h i k (by omega) hk (by omega) h3
def tidB (T:Tn):Bool:=(decide (T.2.1=3)||decide (T.2.1=4))||(decide (T.2.2.2.2.1=0)&&(decide (T.2.2.2.2.2.1=0)&&(T.2.2.2.2.2.2==false)))
theorem zdz {T:Tn}{t:Nat}(h:TW T t):impl_isRunning T.1 T.2.1 T.2.2.1 T.2.2.2.1 T.2.2.2.2.1 T.2.2.2.2.2.1 T.2.2.2.2.2.2 ((t:Int)+1)=some (tidB T):=by
 obtain⟨i,s,L,W,a,b,f⟩:=T
 have hf:=h.few
 have h1:i=(t:Int)+1:=h.id
 have h2:1<=s/\s<=5:=h.st
 have h3:isTd a b=true:=h.td.1
 have h4:f=false:=h.td.2
 have hln:(L.map (·.1)).Nodup:=h.ln
 have hlg:∀l∈L,K4 l.1/\isVl l.2.1=true/\isTd l.2.2.1 l.2.2.2.1=true/\l.2.2.2.2=false:=h.lg
 have hws:SK kC W:=h.ws
 have hwg:∀w∈W,K4 w.1/\isVl w.2=true:=h.wg
 dsimp only at hf ⊢
 subst h1 h4
 unfold impl_isRunning tidB
 dsimp only
 simp only[zaH,zbi,h3,decide_true,Bool.not_true,Bool.not_false,if_true,if_false,Bool.false_eq_true,bind_some,zak (show (1:Int)<=s by omega),zak (show s<=(5:Int) by omega),Bool.and_self,zbe (show ¬(40:Int)<((L.length:Nat):Int) by omega),zdB,zgq,Bool.or_false,Bool.false_or,Bool.false_and,Bool.and_true,Bool.true_and,beq_self_eq_true]
 obtain⟨v,hv⟩:∃v,(decide (s=3)||decide (s=4))=v:=⟨_,rfl⟩
 rw[hv]
 obtain⟨z,hz⟩:∃z,(decide (a=0)&&decide (b=0))=z:=⟨_,rfl⟩
 rw[hz]
 by_cases hg:(v||z)=true
 case neg =>
  have hv':v=false:=by cases v<;>simp_all
  have hz':z=false:=by cases z<;>simp_all
  subst hv' hz'
  simp
 have hc:(!v && !z)=false:=by cases v<;>cases z<;>simp_all
 simp only[hc,Bool.false_eq_true,if_false,hg]
 refine zac (zah (fun k:Nat=>(mks ((L.map (·.1)).take k),(k:Int))) L.length (.inl ()) rfl (fun k hk=>?_) (by simp)) ?_
 · have k1:(k:Int)<L.length:=by omega
   have k0:(0:Int)<=(k:Int):=by omega
   have ki:i64 ((k:Int)+1)=((k+1:Nat):Int):=by rw[zae (by omega) (by omega)];rfl
   obtain⟨q1,q2,q3,q4⟩:=hlg _ (zaf hk L0)
   have hno:=zjk hln L0 hk
   have hsn:=zic (L.map (·.1)) ([]:Tx) (k:=k) (by simpa using hk)
   have hgm:(L.map (·.1)).getD k ([]:Tx)=(L.getD k L0).1:=by simp[hk]
   rw[hgm]at hsn
   rw[hsn]
   obtain⟨l,hl⟩:∃l,L.getD k L0=l:=⟨_,rfl⟩
   have hl':L.getD k ([],([],(0,(0,false))))=l:=hl
   rw[hl]at q1 q2 q3 q4 hno ⊢
   have hvl:=zdp q2
   simp only[k1,k0,decide_true,Bool.and_self,zaa,if_true,Int.toNat_natCast,ki,hl',zbg,q1.ky.1,bind_some,Bool.not_true,Bool.false_eq_true,if_false,zhf,hno,decide_false,Bool.or_false,Bool.false_or,Bool.not_false,zaC (l:=l.2.1) (by omega),q2,zbi,q3,q4]
 simp only[zaw]
 refine zac (zah (fun k:Nat=>(k:Int)) W.length (.inl ()) rfl (fun k hk=>?_) (by simp)) ?_
 · have k1:(k:Int)<W.length:=by omega
   have k0:(0:Int)<=(k:Int):=by omega
   have ki:i64 ((k:Int)+1)=((k+1:Nat):Int):=by rw[zae (by omega) (by omega)];rfl
   obtain⟨q1,q2⟩:=hwg _ (zaf hk C0)
   have hvl:=zdp q2
   have hgt:(decide ((0:Int)<(k:Int)) && !Op.bytesLess (W.getD (Int.toNat (i64 ((k:Int)-1))) ([],[])).1 (W.getD k C0).1)=false:=by
    by_cases c:0<k
    · have hlt:Op.bytesLess (W.getD (k-1) ([],[])).1 (W.getD k C0).1=true:=zlp hws C0 hk c
      rw[zae (by omega) (by omega),show ((k:Int)-1).toNat=k-1 by omega,hlt];simp
    ·rw[zbe (show ¬(0:Int)<(k:Int) by omega)];rfl
   have hch:(!(decide ((0:Int)<(k:Int)))||(decide ((0:Int)<=i64 ((k:Int)-1))&&decide (i64 ((k:Int)-1)<((W.length:Nat):Int))))=true:=by
    by_cases c:0<k
    ·rw[zae (by omega) (by omega),zak (show (0:Int)<=(k:Int)-1 by omega),zak (show (k:Int)-1<((W.length:Nat):Int) by omega)];simp
    ·rw[zbe (show ¬(0:Int)<(k:Int) by omega)];rfl
   obtain⟨w,hw⟩:∃w,W.getD k C0=w:=⟨_,rfl⟩
   have hw':W.getD k ([],[])=w:=hw
   rw[hw]at q1 q2 hgt hvl
   simp only[k1,k0,decide_true,Bool.and_self,zaa,if_true,Int.toNat_natCast,ki,hw',zbg,q1.ky.1,bind_some,Bool.not_true,Bool.false_eq_true,if_false,Bool.not_false,zaC (l:=w.2) (by omega),q2,Bool.true_and,Bool.or_self,hch,hgt]
 simp only[zaw]
def recB (e:Int)(X:List Tn)(r:Rc):Bool:=(decide (r.2.2.1<=e)&&(r.2.2.2.2.1 == !decide (r.2.2.2.2.2=0)))&&(decide (r.2.2.2.2.2=0) ||
 ((decide (1<=r.2.2.2.2.2)&&decide (r.2.2.2.2.2<=X.length))&&((decide ((X.getD (r.2.2.2.2.2-1).toNat T0).2.1=2)||decide ((X.getD (r.2.2.2.2.2-1).toNat T0).2.1=3)) &&
  decide (hasG kC C0 (X.getD (r.2.2.2.2.2-1).toNat T0).2.2.2.1 r.1))))
def ownB (R:List Rc)(T:Tn):Bool:=(decide (T.2.1=2)||decide (T.2.1=3))&&(List.range T.2.2.2.1.length).any fun i=>!decide (ownR (recOr R (T.2.2.2.1.getD i C0).1)=T.1)
def s34 (T:Tn):Bool:=decide (T.2.1=3)||decide (T.2.1=4)
def ordB (X:List Tn)(O:List Int):Bool:=(List.range O.length).any fun k=>!(decide (1<=O.getD k 0)&&decide (O.getD k 0<=X.length))||decide (O.getD k 0∈O.take k)
def txB (R:List Rc)(X:List Tn)(O:List Int)(t:Nat):Bool:=(!tidB (X.getD t T0)||(decide (((t:Int)+1)∈O) != s34 (X.getD t T0)))||ownB R (X.getD t T0)
def isB (e:Int)(R:List Rc)(X:List Tn)(O:List Int):Bool :=
 (decide (1<=e)&&decide (e<=1000))&&(!ordB X O&&(!((List.range R.length).any fun k=>!recB e X (R.getD k R0)) && !((List.range X.length).any (txB R X O))))
theorem zlt {R:List Rc}{X:List Tn}(h:WB R X)(k:Tx){i:Int}(hi:i≠0) :
 ((!decide (hasG kR R0 R k)) || !decide (ownR (R.getD (lbS kR R k) R0)=i)) = !decide (ownR (recOr R k)=i):=by
 by_cases c:hasG kR R0 R k
 · have:recOr R k=R.getD (lbS kR R k) R0:=by unfold recOr;rw[if_pos c]
   rw[this,decide_eq_true c];rfl
 · have:recOr R k=(k,[],0,0,false,0):=by unfold recOr;rw[if_neg c]
   rw[this,decide_eq_false c]
   have:¬(0:Int)=i:=fun e=>hi e.symm
   show true = !decide ((0:Int)=i)
   rw[decide_eq_false this];rfl
theorem zjx (k n:Nat)(h:k<n)(hn:n<=1000000):(!(decide ((0:Int)<(k:Int)))||(decide ((0:Int)<=i64 ((k:Int)-1))&&decide (i64 ((k:Int)-1)<((n:Nat):Int))))=true:=by
 by_cases c:0<k
 ·rw[zae (by omega) (by omega),zak (show (0:Int)<=(k:Int)-1 by omega),zak (show (k:Int)-1<((n:Nat):Int) by omega)];simp
 ·rw[zbe (show ¬(0:Int)<(k:Int) by omega)];rfl
theorem zhu {A:Type}{key:A->Tx}{l:List A}(h:SK key l)(d:A)(hn:l.length<=1000000){k:Nat}(hk:k<l.length) :
 (decide ((0:Int)<(k:Int)) && !Op.bytesLess (key (l.getD (Int.toNat (i64 ((k:Int)-1))) d)) (key (l.getD k d)))=false:=by
 by_cases c:0<k
 ·rw[zae (by omega) (by omega),show ((k:Int)-1).toNat=k-1 by omega,zlp h d hk c];simp
 ·rw[zbe (show ¬(0:Int)<(k:Int) by omega)];rfl
theorem ziu {R:List Rc}{X:List Tn}(h:WB R X){k:Nat}(hk:k<R.length):K4 (R.getD k R0).1/\isVl (R.getD k R0).2.1=true/\isTd (R.getD k R0).2.2.1 (R.getD k R0).2.2.2.1=true:=by
 have hm:=zaf hk R0
 have:=h.rv (kR (R.getD k R0))
 rw[zcj h.rk hm]at this
 exact⟨h.kk _ hm,this.1,this.2⟩
theorem zeR {e : Int} {R : List Rc} {X : List Tn} {O : List Int} (h : WB R X) (hO : O.length <= 1000) : impl_isStore e R X O = some (isB e R X O) := by
 have hr:R.length<=4:=zby (zcr h.rk) h.kk
 have hx:=h.xl
 unfold impl_isStore isB
 obtain⟨b,hb⟩:∃b,(decide (1<=e)&&decide (e<=1000))=b:=⟨_,rfl⟩
 simp only[zaH,bind_some,hb,zbe (show ¬(40:Int)<((R.length:Nat):Int) by omega),zbe (show ¬(20:Int)<((X.length:Nat):Int) by omega),zdB,Bool.or_false]
 cases b with
 |false=>rfl
 | true =>
   simp only[Bool.not_true,Bool.false_eq_true,if_false,Bool.true_and]
   refine zac (zau (fun k:Nat=>(mks (O.take k),(k:Int))) O.length (fun k=>!(decide (1<=O.getD k 0)&&decide (O.getD k 0<=X.length))||decide (O.getD k 0∈O.take k)) (.inr false) (.inl (mks O)) rfl (fun k hk=>?_) (by simp)) ?_
   · have k1:(k:Int)<O.length:=by omega
     have k0:(0:Int)<=(k:Int):=by omega
     have ki:i64 ((k:Int)+1)=((k+1:Nat):Int):=by rw[zae (by omega) (by omega)];rfl
     rw[zic O 0 hk]
     simp only[k1,k0,decide_true,Bool.and_self,zaa,if_true,Int.toNat_natCast,ki,bind_some,zhf]
     obtain⟨q,hq⟩:∃q,(!(decide (1<=O.getD k 0)&&decide (O.getD k 0<=X.length))||decide (O.getD k 0∈O.take k))=q:=⟨_,rfl⟩
     rw[hq]
     cases q<;>rfl
   have eo:((List.range O.length).any fun k=>!(decide (1<=O.getD k 0)&&decide (O.getD k 0<=X.length))||decide (O.getD k 0∈O.take k))=ordB X O:=rfl
   rw[eo]
   cases ho:ordB X O with
   |true=>rfl
   | false =>
     simp only[Bool.false_eq_true,if_false,zaw,Bool.not_false,Bool.true_and]
     refine zac (zau (fun k:Nat=>(k:Int)) R.length (fun k=>!recB e X (R.getD k R0)) (.inr false) (.inl ()) rfl (fun k hk=>?_) (by simp)) ?_
     · have k1:(k:Int)<R.length:=by omega
       have k0:(0:Int)<=(k:Int):=by omega
       have ki:i64 ((k:Int)+1)=((k+1:Nat):Int):=by rw[zae (by omega) (by omega)];rfl
       obtain⟨q1,q2,q3⟩:=ziu h hk
       have hle:=zhu h.rk R0 (by omega) hk
       have hch:=zjx k R.length hk (by omega)
       obtain⟨r,hr'⟩:∃r,R.getD k R0=r:=⟨_,rfl⟩
       rw[hr']at q1 q2 q3 hle ⊢
       have hvl:=zdp q2
       have hle':(decide ((0:Int)<(k:Int)) && !Op.bytesLess (R.getD (Int.toNat (i64 ((k:Int)-1))) R0).1 r.1)=false:=hle
       simp only[k1,k0,decide_true,Bool.and_self,zaa,if_true,Int.toNat_natCast,ki,hr',zbg,q1.ky.1,bind_some,Bool.not_true,Bool.not_false,Bool.true_and,hch,zgq,hle',zdB,Bool.or_self,zaC (l:=r.2.1) (by omega),q2,zbi,q3,Bool.false_or]
       obtain⟨rk,rv,ra,rb,rl,ro⟩:=r
       unfold recB
       dsimp only
       by_cases c1:ra<=e
       case neg=>simp[show e<ra by omega,c1]
       simp only[zbe (show ¬e<ra by omega),c1,decide_true,Bool.false_or,Bool.true_and]
       by_cases c2:ro=0
       · subst c2
         cases rl<;>simp
       · simp only[c2,decide_false,Bool.not_false,Bool.false_or]
         cases rl with
         |false=>simp
         | true =>
           by_cases c3:1<=ro/\ro<=X.length
           case neg =>
            have hb:(decide (1<=ro)&&decide (ro<=(X.length:Int)))=false:=by
             rw[Bool.eq_false_iff];intro hh;simp only[Bool.and_eq_true,decide_eq_true_eq]at hh;exact c3 hh
            have hb0:(decide (0<=ro)&&decide (ro<=(X.length:Int)))=false:=by
             rw[Bool.eq_false_iff];intro hh;simp only[Bool.and_eq_true,decide_eq_true_eq]at hh;omega
            simp[hb,hb0]
           obtain⟨c3,c4⟩:=c3
           have ht:(ro-1).toNat<X.length:=by omega
           have hi:i64 (ro-1)=ro-1:=zae (by omega) (by omega)
           have hw:=(h.tw _ ht).ws
           have hf:=(h.tw _ ht).few
           have hwa:=zh5 (W:=(X.getD (ro-1).toNat T0).2.2.2.1) hw (show (X.getD (ro-1).toNat T0).2.2.2.1.length<=1000000 by have:=hf.2;show (atX X (ro-1).toNat).2.2.2.1.length<=1000000;omega)
           obtain⟨T,hT⟩:∃T,X.getD (ro-1).toNat T0=T:=⟨_,rfl⟩
           have hT':X.getD (ro-1).toNat (0,(0,([],([],(0,(0,false))))))=T:=hT
           rw[hT]at hwa ⊢
           simp only[zak (show (0:Int)<=ro by omega),zak c3,zak c4,hi,zak (show (0:Int)<=ro-1 by omega),zak (show ro-1<((X.length:Nat):Int) by omega),hT',Bool.and_self,zaa,bne_self_eq_false,Bool.not_false,if_true,bind_some,Bool.not_true,Bool.false_eq_true,if_false,hwa,impl_owns,zdB,beq_self_eq_true,Bool.true_and]
           obtain⟨q,hq⟩:∃q,(decide (T.2.1=2)||decide (T.2.1=3))=q:=⟨_,rfl⟩
           obtain⟨z,hz⟩:∃z,decide (hasG kC C0 T.2.2.2.1 rk)=z:=⟨_,rfl⟩
           rw[hq,hz]
           cases q<;>cases z<;>rfl
     obtain⟨q,hq⟩:∃q,((List.range R.length).any fun k=>!recB e X (R.getD k R0))=q:=⟨_,rfl⟩
     rw[hq]
     cases q with
     |true=>rfl
     | false =>
       simp only[Bool.false_eq_true,if_false,zaw,Bool.not_false,Bool.true_and]
       refine zac (zau (fun k:Nat=>(k:Int)) X.length (txB R X O) (.inr false) (.inl ()) rfl (fun t ht=>?_) (by simp)) ?_
       · have k1:(t:Int)<X.length:=by omega
         have k0:(0:Int)<=(t:Int):=by omega
         have ki:i64 ((t:Int)+1)=(t:Int)+1:=by rw[zae (by omega) (by omega)]
         have hw:=h.tw t ht
         have hrun:=zdz hw
         unfold txB
         obtain⟨T,hT⟩:∃T,X.getD t T0=T:=⟨_,rfl⟩
         have hT':X.getD t (0,(0,([],([],(0,(0,false))))))=T:=hT
         have hT2:atX X t=T:=hT
         rw[hT2]at hrun hw
         rw[hT]
         have hf:=hw.few
         simp only[k1,k0,decide_true,Bool.and_self,zaa,if_true,Int.toNat_natCast,ki,hT',hrun,bind_some,zhf,zdB]
         obtain⟨q,hq⟩:∃q,(!tidB T||decide ((t:Int)+1∈O) != s34 T)=q:=⟨_,rfl⟩
         have hq':(!tidB T||decide ((t:Int)+1∈O) != (decide (T.2.1=3)||decide (T.2.1=4)))=q:=hq
         rw[hq,hq']
         cases q with
         |true=>rfl
         | false =>
           simp only[Bool.false_eq_true,if_false,Bool.false_or]
           refine zac (zau (fun k:Nat=>(T.2.2.1,T.2.2.2.1,(k:Int))) T.2.2.2.1.length (fun i=>(decide (T.2.1=2)||decide (T.2.1=3)) && !decide (ownR (recOr R (T.2.2.2.1.getD i C0).1)=T.1)) (.inr false) (.inl ()) rfl (fun i hi=>?_) (by simp)) ?_
           · have i1:(i:Int)<T.2.2.2.1.length:=by omega
             have i0:(0:Int)<=(i:Int):=by omega
             have ii:i64 ((i:Int)+1)=((i+1:Nat):Int):=by rw[zae (by omega) (by omega)];rfl
             obtain⟨w,hw2⟩:∃w,T.2.2.2.1.getD i C0=w:=⟨_,rfl⟩
             have hw':T.2.2.2.1.getD i ([],[])=w:=hw2
             have hid:T.1≠0:=by rw[hw.id];omega
             have hoa:=zlt h w.1 hid
             have hat:=zhv h.rk (by omega) e X O w.1
             rw[hw2]
             simp only[i1,i0,decide_true,Bool.and_self,zaa,if_true,Int.toNat_natCast,ii,hw',hat,bind_some,impl_owns,zdB,zgq,Bool.not_not]
             by_cases c:hasG kR R0 R w.1
             · have c1:=c.1
               rw[<- hoa]
               simp only[zak c,Bool.not_true,Bool.and_true,Bool.false_or,zak (show (0:Int)<=(lbS kR R w.1:Int) by omega),zak (show (lbS kR R w.1:Int)<((R.length:Nat):Int) by omega),Bool.and_self,Bool.or_true,zaa]
               obtain⟨z,hz⟩:∃z,((decide (T.2.1=2)||decide (T.2.1=3)) && !decide (ownR (R.getD (lbS kR R w.1) R0)=T.1))=z:=⟨_,rfl⟩
               rw[hz]
               cases z<;>rfl
             · rw[<- hoa]
               simp only[zbe c,Bool.not_false,Bool.and_false,Bool.true_or,Bool.not_true,Bool.and_true,zaa,Bool.not_false]
               obtain⟨z,hz⟩:∃z,(decide (T.2.1=2)||decide (T.2.1=3))=z:=⟨_,rfl⟩
               rw[hz]
               cases z<;>rfl
           have e1:((List.range T.2.2.2.1.length).any fun i=>(decide (T.2.1=2)||decide (T.2.1=3)) && !decide (ownR (recOr R (T.2.2.2.1.getD i C0).1)=T.1))=ownB R T:=by
            unfold ownB
            cases (decide (T.2.1=2)||decide (T.2.1=3))<;>simp
           rw[e1]
           cases ownB R T<;>simp
       cases (List.range X.length).any (txB R X O)<;>rfl
def stO (X:List Tn)(o:Int):Int:=if 1<=o/\o<=X.length then (X.getD (o-1).toNat T0).2.1 else 0
def cn (X:List Tn):Nat->Int
 |0=>0
 |k+1=>if s34 (X.getD k T0)=true then cn X k+1 else cn X k
theorem zih (X:List Tn):∀k,0<=cn X k/\cn X k<=k
 |0=>⟨Int.le_refl _,Int.le_refl _⟩
 | k + 1 => by
   have:=zih X k
   show 0<=(if s34 (X.getD k T0)=true then cn X k+1 else cn X k)/\(if s34 (X.getD k T0)=true then cn X k+1 else cn X k)<=((k+1:Nat):Int)
   split<;>omega
def orS (X:List Tn)(O:List Int):Bool:=(List.range O.length).any fun k=>(!decide (stO X (O.getD k 0)=3) && !decide (stO X (O.getD k 0)=4))||decide (O.getD k 0∈O.take k)
def spB (e:Int)(R:List Rc)(X:List Tn)(O:List Int):Bool :=
 (decide (1<=e)&&decide (e<=1000))&&(!((List.range R.length).any fun k=>!recB e X (R.getD k R0))&&(!((List.range X.length).any fun t=>!(!ownB R (X.getD t T0)&&tidB (X.getD t T0)))&&(!orS X O&&decide ((O.length:Int)=cn X X.length))))
theorem zfg {W:List Cl}(h:SK kC W)(hl:W.length<=1000000)(a b:Int)(c:List Lk)(d f:Int)(g:Bool)(x:Tx):spec_l5Writes a b c W d f g x=some (decide (hasG kC C0 W x)):=by
 unfold spec_l5Writes
 refine zac (zau (fun k:Nat=>(k:Int)) W.length (fun k=>decide ((W.getD k C0).1=x)) (.inr true) (.inl ()) rfl (fun k hk=>?_) (by simp)) ?_
 · have k1:(k:Int)<W.length:=by omega
   have k0:(0:Int)<=(k:Int):=by omega
   have ki:i64 ((k:Int)+1)=((k+1:Nat):Int):=by rw[zae (by omega) (by omega)];rfl
   simp only[k1,k0,decide_true,Bool.and_self,zaa,if_true,Int.toNat_natCast,ki]
   by_cases c:(W.getD k C0).1=x
   · have c':(W.getD k ([],[])).1=x:=c
     simp only[c',decide_true,if_true]
   · have c':¬(W.getD k ([],[])).1=x:=c
     simp only[c',decide_false,Bool.false_eq_true,if_false]
 have e1:((List.range W.length).any fun k=>decide ((W.getD k C0).1=x))=decide (hasG kC C0 W x):=by
  rw[Bool.eq_iff_iff,zcR,decide_eq_true_eq,zbS h]
  constructor
  · rintro⟨k,h1,h2⟩
    exact⟨_,zaf h1 C0,of_decide_eq_true h2⟩
  · rintro⟨w,h1,h2⟩
    obtain⟨i,h3,h4⟩:=List.mem_iff_getElem.1 h1
    exact⟨i,h3,by rw[gd h3,h4];exact decide_eq_true h2⟩
 rw[e1]
 cases decide (hasG kC C0 W x)<;>simp
theorem ze1 {e:Int}{R:List Rc}{X:List Tn}{O:List Int}(h:WB R X){t:Nat}(ht:t<X.length):spec_l5Running e R X O (t:Int)=some (!ownB R (X.getD t T0)&&tidB (X.getD t T0)):=by
 have hr:R.length<=4:=zby (zcr h.rk) h.kk
 have hx:=h.xl
 have k1:(t:Int)<X.length:=by omega
 have k0:(0:Int)<=(t:Int):=by omega
 have ki:i64 ((t:Int)+1)=(t:Int)+1:=by rw[zae (by omega) (by omega)]
 have hw:TW (X.getD t T0) t:=h.tw t ht
 unfold spec_l5Running
 obtain⟨T,hT⟩:∃T,X.getD t T0=T:=⟨_,rfl⟩
 have hT':X.getD t (0,(0,([],([],(0,(0,false))))))=T:=hT
 rw[hT]at hw ⊢
 have hf:=hw.few
 have h1:T.1=(t:Int)+1:=hw.id
 have h2:1<=T.2.1/\T.2.1<=5:=hw.st
 have h3:isTd T.2.2.2.2.1 T.2.2.2.2.2.1=true:=hw.td.1
 have h4:T.2.2.2.2.2.2=false:=hw.td.2
 have hln:(T.2.2.1.map (·.1)).Nodup:=hw.ln
 have hlg:∀l∈T.2.2.1,K4 l.1/\isVl l.2.1=true/\isTd l.2.2.1 l.2.2.2.1=true/\l.2.2.2.2=false:=hw.lg
 have hws:SK kC T.2.2.2.1:=hw.ws
 have hwg:∀w∈T.2.2.2.1,K4 w.1/\isVl w.2=true:=hw.wg
 simp only[k1,k0,decide_true,Bool.and_self,zaa,Int.toNat_natCast,ki,hT',h1,za5,zak h2.1,zak h2.2,Bool.not_true,Bool.not_false,if_true,bind_some,Bool.false_eq_true,if_false,zbe (show ¬(40:Int)<((T.2.2.1.length:Nat):Int) by omega)]
 refine zac (zah (fun k:Nat=>(T.2.2.1,T.2.2.2.1,(k:Int))) T.2.2.1.length (.inl (T.2.2.1,T.2.2.2.1)) rfl (fun k hk=>?_) (by simp)) ?_
 · have j1:(k:Int)<T.2.2.1.length:=by omega
   have j0:(0:Int)<=(k:Int):=by omega
   have ji:i64 ((k:Int)+1)=((k+1:Nat):Int):=by rw[zae (by omega) (by omega)];rfl
   obtain⟨q1,q2,q3,q4⟩:=hlg _ (zaf hk L0)
   have hno:=zjk hln L0 hk
   obtain⟨l,hl⟩:∃l,T.2.2.1.getD k L0=l:=⟨_,rfl⟩
   have hl':T.2.2.1.getD k ([],([],(0,(0,false))))=l:=hl
   rw[hl]at q1 q2 q3 q4 hno
   have hvl:=zdp q2
   have hky:=q1.ky
   simp only[j1,j0,decide_true,Bool.and_self,zaa,if_true,Int.toNat_natCast,ji,hl',zbd l.1 (by omega),hky.1,bind_some,Bool.not_true,Bool.not_false,Bool.false_eq_true,if_false,zaE (l:=l.2.1) (by omega),q2,zbM,q3,q4,zak (show (k:Int)<=((T.2.2.1.length:Nat):Int) by omega),zak (show (0:Int)<=0 by omega)]
   refine zac (zah (fun i:Nat=>(i:Int)) k (.inl ()) rfl (fun i hi=>?_) (by simp)) rfl
   have i1:(i:Int)<(k:Int):=by omega
   have i2:(i:Int)<((T.2.2.1.length:Nat):Int):=by omega
   have i0:(0:Int)<=(i:Int):=by omega
   have ii:i64 ((i:Int)+1)=((i+1:Nat):Int):=by rw[zae (by omega) (by omega)];rfl
   have hne:¬(T.2.2.1.getD i ([],([],(0,(0,false))))).1=l.1:=by
    intro he
    apply hno
    rw[<- he]
    refine List.mem_iff_getElem.2 ⟨i,by simp;omega,?_⟩
    simp[show i<T.2.2.1.length by omega]
   simp only[i1,i2,i0,decide_true,Bool.and_self,zaa,if_true,Int.toNat_natCast,ii,hne,decide_false,Bool.false_eq_true,if_false]
 simp only[zaw]
 refine zac (zau (fun k:Nat=>(k:Int)) T.2.2.2.1.length (fun i=>(decide (T.2.1=2)||decide (T.2.1=3)) && !decide (ownR (recOr R (T.2.2.2.1.getD i C0).1)=T.1)) (.inr false) (.inl ()) rfl (fun k hk=>?_) (by simp)) ?_
 · have j1:(k:Int)<T.2.2.2.1.length:=by omega
   have j0:(0:Int)<=(k:Int):=by omega
   have ji:i64 ((k:Int)+1)=((k+1:Nat):Int):=by rw[zae (by omega) (by omega)];rfl
   obtain⟨q1,q2⟩:=hwg _ (zaf hk C0)
   have hle:=zhu hws C0 (by omega) hk
   have hch:=zjx k T.2.2.2.1.length hk (by omega)
   obtain⟨w,hw2⟩:∃w,T.2.2.2.1.getD k C0=w:=⟨_,rfl⟩
   have hw':T.2.2.2.1.getD k ([],[])=w:=hw2
   rw[hw2]at q1 q2 hle ⊢
   have hle':(decide ((0:Int)<(k:Int)) && !Op.bytesLess (T.2.2.2.1.getD (Int.toNat (i64 ((k:Int)-1))) ([],[])).1 w.1)=false:=hle
   have hvl:=zdp q2
   have hky:=q1.ky
   have hfi:=zd0 h.rk (by omega) e X O w.1
   simp only[j1,j0,decide_true,Bool.and_self,zaa,if_true,Int.toNat_natCast,ji,hw',zbd w.1 (by omega),hky.1,bind_some,Bool.not_true,Bool.not_false,Bool.false_eq_true,if_false,Bool.true_and,zaE (l:=w.2) (by omega),q2,Bool.or_self,hch,zgq,hle',Bool.or_false,hfi,zdB,h1]
   have hoa:(!decide (hasG kR R0 R w.1) || !decide (ownR (recOr R w.1)=(t:Int)+1)) = !decide (ownR (recOr R w.1)=(t:Int)+1):=by
    by_cases c:hasG kR R0 R w.1
    ·rw[decide_eq_true c];rfl
    · have:recOr R w.1=(w.1,[],0,0,false,0):=by unfold recOr;rw[if_neg c]
      have h0:¬ownR (recOr R w.1)=(t:Int)+1:=by rw[this];show ¬(0:Int)=(t:Int)+1;omega
      rw[decide_eq_false h0];simp
   have hoa':(!decide (hasG kR R0 R w.1) || !decide ((recOr R w.1).2.2.2.2.2=(t:Int)+1)) = !decide (ownR (recOr R w.1)=(t:Int)+1):=hoa
   rw[hoa']
   obtain⟨z,hz⟩:∃z,((decide (T.2.1=2)||decide (T.2.1=3)) && !decide (ownR (recOr R w.1)=(t:Int)+1))=z:=⟨_,rfl⟩
   rw[hz]
   cases z<;>rfl
 have e1:((List.range T.2.2.2.1.length).any fun i=>(decide (T.2.1=2)||decide (T.2.1=3)) && !decide (ownR (recOr R (T.2.2.2.1.getD i C0).1)=T.1))=ownB R T:=by
  unfold ownB
  cases (decide (T.2.1=2)||decide (T.2.1=3))<;>simp
 rw[e1]
 cases ownB R T with
 |true=>simp
 | false =>
   simp only[Bool.false_eq_true,if_false,zaw,zdB,zbM,h3,h4,bind_some,if_true,Bool.not_false,Bool.true_and]
   unfold tidB
   rw[h4]
   cases (decide (T.2.1=3)||decide (T.2.1=4))<;>simp
theorem zeX {l:List Int}(h:l.length<=1000000000)(x:Int):spec_l1Has l x=some (decide (x∈l)):=zh1 h x
theorem zds {e:Int}{R:List Rc}{X:List Tn}{O:List Int}(h:WB R X)(hO:O.length<=1000):spec_GoodStore e R X O=some (spB e R X O):=by
 have hr:R.length<=4:=zby (zcr h.rk) h.kk
 have hx:=h.xl
 unfold spec_GoodStore spB
 obtain⟨b,hb⟩:∃b,(decide (1<=e)&&decide (e<=1000))=b:=⟨_,rfl⟩
 simp only[za5,bind_some,hb,zbe (show ¬(40:Int)<((R.length:Nat):Int) by omega),zbe (show ¬(20:Int)<((X.length:Nat):Int) by omega),zdB,Bool.or_false]
 cases b with
 |false=>rfl
 | true =>
   simp only[Bool.not_true,Bool.false_eq_true,if_false,Bool.true_and]
   refine zac (zau (fun k:Nat=>(k:Int)) R.length (fun k=>!recB e X (R.getD k R0)) (.inr false) (.inl ()) rfl (fun k hk=>?_) (by simp)) ?_
   · have k1:(k:Int)<R.length:=by omega
     have k0:(0:Int)<=(k:Int):=by omega
     have ki:i64 ((k:Int)+1)=((k+1:Nat):Int):=by rw[zae (by omega) (by omega)];rfl
     obtain⟨q1,q2,q3⟩:=ziu h hk
     have hle:=zhu h.rk R0 (by omega) hk
     have hch:=zjx k R.length hk (by omega)
     obtain⟨r,hr'⟩:∃r,R.getD k R0=r:=⟨_,rfl⟩
     rw[hr']at q1 q2 q3 hle ⊢
     have hvl:=zdp q2
     have hky:=q1.ky
     have hle':(decide ((0:Int)<(k:Int)) && !Op.bytesLess (R.getD (Int.toNat (i64 ((k:Int)-1))) R0).1 r.1)=false:=hle
     have hch2:∀q:Bool,(!(q&&decide ((0:Int)<(k:Int)))||(decide ((0:Int)<=i64 ((k:Int)-1))&&decide (i64 ((k:Int)-1)<((R.length:Nat):Int))))=true:=by
      intro q;cases q
      ·rfl
      ·rw[Bool.true_and];exact hch
     simp only[k1,k0,decide_true,Bool.and_self,zaa,if_true,Int.toNat_natCast,ki,hr',zbd r.1 (by omega),hky.1,bind_some,Bool.not_true,Bool.not_false,Bool.true_and,hch2,zgq,hle',zdB,Bool.or_self,zaE (l:=r.2.1) (by omega),q2,zbM,q3,Bool.false_or,Bool.or_false,Bool.false_eq_true,if_false]
     obtain⟨rk,rv,ra,rb,rl,ro⟩:=r
     unfold recB
     dsimp only
     dsimp only at hky
     by_cases c1:ra<=e
     case neg=>simp[show e<ra by omega,c1]
     simp only[zbe (show ¬e<ra by omega),c1,decide_true,Bool.false_or,Bool.true_and]
     by_cases c2:ro=0
     · subst c2
       cases rl<;>simp
     · simp only[c2,decide_false,Bool.not_false,Bool.false_or]
       cases rl with
       |false=>simp
       | true =>
         have hst:=zfQ (e:=e) (R:=R) (X:=X) (O:=O) (by omega) ro
         by_cases c3:1<=ro/\ro<=X.length
         case neg =>
          have hb:(decide (1<=ro)&&decide (ro<=(X.length:Int)))=false:=by
           rw[Bool.eq_false_iff];intro hh;simp only[Bool.and_eq_true,decide_eq_true_eq]at hh;exact c3 hh
          rw[if_neg c3]at hst
          simp[hb,hst]
         rw[if_pos c3]at hst
         obtain⟨c3,c4⟩:=c3
         have ht:(ro-1).toNat<X.length:=by omega
         have hi:i64 (ro-1)=ro-1:=zae (by omega) (by omega)
         have hw:=(h.tw _ ht).ws
         have hf:=(h.tw _ ht).few
         have hwa:=fun a b c d f g=>zfg (W:=(X.getD (ro-1).toNat T0).2.2.2.1) hw (show (X.getD (ro-1).toNat T0).2.2.2.1.length<=1000000 by have:=hf.2;show (atX X (ro-1).toNat).2.2.2.1.length<=1000000;omega) a b c d f g rk
         obtain⟨T,hT⟩:∃T,X.getD (ro-1).toNat T0=T:=⟨_,rfl⟩
         have hT':X.getD (ro-1).toNat (0,(0,([],([],(0,(0,false))))))=T:=hT
         rw[hT]at hwa hst ⊢
         simp only[hst,bind_some,zak c3,zak c4,hi,zak (show (0:Int)<=ro-1 by omega),zak (show ro-1<((X.length:Nat):Int) by omega),hT',Bool.and_self,Bool.or_true,zaa,bne_self_eq_false,beq_self_eq_true,Bool.false_eq_true,if_false,hwa,Bool.true_and]
         obtain⟨q,hq⟩:∃q,(decide (T.2.1=2)||decide (T.2.1=3))=q:=⟨_,rfl⟩
         obtain⟨z,hz⟩:∃z,decide (hasG kC C0 T.2.2.2.1 rk)=z:=⟨_,rfl⟩
         have hv:(!decide (T.2.1=2) && !decide (T.2.1=3)) = !q:=by
          rw[<- hq];cases decide (T.2.1=2)<;>cases decide (T.2.1=3)<;>rfl
         rw[hv,hq,hz]
         cases q<;>cases z<;>rfl
   obtain⟨q,hq⟩:∃q,((List.range R.length).any fun k=>!recB e X (R.getD k R0))=q:=⟨_,rfl⟩
   rw[hq]
   cases q with
   |true=>rfl
   | false =>
     simp only[Bool.false_eq_true,if_false,zaw,Bool.not_false,Bool.true_and]
     refine zac (zau (fun k:Nat=>(cn X k,(k:Int))) X.length (fun t=>!(!ownB R (X.getD t T0)&&tidB (X.getD t T0))) (.inr false) (.inl (cn X X.length)) rfl (fun t ht=>?_) (by simp)) ?_
     · have k1:(t:Int)<X.length:=by omega
       have k0:(0:Int)<=(t:Int):=by omega
       have ki:i64 ((t:Int)+1)=((t+1:Nat):Int):=by rw[zae (by omega) (by omega)];rfl
       have hrun:=ze1 (e:=e) (O:=O) h ht
       have hc:=zih X t
       have ec:cn X (t+1)=if s34 (X.getD t T0)=true then cn X t+1 else cn X t:=rfl
       rw[ec]
       obtain⟨T,hT⟩:∃T,X.getD t T0=T:=⟨_,rfl⟩
       have hT':X.getD t (0,(0,([],([],(0,(0,false))))))=T:=hT
       rw[hT]at hrun ⊢
       have hi:i64 (cn X t+1)=cn X t+1:=zae (by omega) (by omega)
       simp only[k1,k0,decide_true,Bool.and_self,zaa,if_true,Int.toNat_natCast,ki,hT',hrun,bind_some,zdB,hi]
       unfold s34
       cases (!ownB R T&&tidB T) with
       |false=>rfl
       | true =>
         cases (decide (T.2.1=3)||decide (T.2.1=4))<;>rfl
     obtain⟨q,hq⟩:∃q,((List.range X.length).any fun t=>!(!ownB R (X.getD t T0)&&tidB (X.getD t T0)))=q:=⟨_,rfl⟩
     rw[hq]
     cases q with
     |true=>rfl
     | false =>
       simp only[Bool.false_eq_true,if_false,zaw,Bool.not_false,Bool.true_and]
       refine zac (zau (fun k:Nat=>(k:Int)) O.length (fun k=>(!decide (stO X (O.getD k 0)=3) && !decide (stO X (O.getD k 0)=4))||decide (O.getD k 0∈O.take k)) (.inr false) (.inl ()) rfl (fun k hk=>?_) (by simp)) ?_
       · have k1:(k:Int)<O.length:=by omega
         have k0:(0:Int)<=(k:Int):=by omega
         have ki:i64 ((k:Int)+1)=((k+1:Nat):Int):=by rw[zae (by omega) (by omega)];rfl
         have hst:=zfQ (e:=e) (R:=R) (X:=X) (O:=O) (by omega) (O.getD k 0)
         have hst':spec_l5State e R X O (O.getD k 0)=some (stO X (O.getD k 0)):=hst
         have hhas:=zeX (l:=O.take k) (by rw[List.length_take];omega) (O.getD k 0)
         simp only[k1,k0,decide_true,Bool.and_self,zaa,if_true,Int.toNat_natCast,ki,hst',bind_some,zgq,zak (show (k:Int)<=((O.length:Nat):Int) by omega),zak (show (0:Int)<=0 by omega),Bool.or_true,Int.toNat_zero,List.drop_zero,hhas,zdB]
         obtain⟨q,hq⟩:∃q,(!decide (stO X (O.getD k 0)=3) && !decide (stO X (O.getD k 0)=4))=q:=⟨_,rfl⟩
         rw[hq]
         cases q with
         |true=>rfl
         | false =>
           simp only[Bool.not_false,if_true,bind_some,Bool.false_or]
           cases decide (O.getD k 0∈O.take k)<;>rfl
       have eo:((List.range O.length).any fun k=>(!decide (stO X (O.getD k 0)=3) && !decide (stO X (O.getD k 0)=4))||decide (O.getD k 0∈O.take k))=orS X O:=rfl
       rw[eo]
       cases orS X O<;>simp
theorem zek {e:Int}{R:List Rc}{X:List Tn}(h:WB R X)(he:0<=e):((List.range R.length).any fun k=>!recB e X (R.getD k R0))=false ↔ ∀k,(recOr R k).2.2.1<=e/\lockR (recOr R k) = !decide (ownR (recOr R k)=0) /\
 (ownR (recOr R k)=0\/∃t:Nat,t<X.length/\ownR (recOr R k)=(t:Int)+1/\(stT (atX X t)=2\/stT (atX X t)=3)/\∃w∈wrT (atX X t),w.1=k):=by
 have key : ∀ r : Rc, recB e X r = true ↔ r.2.2.1 <= e /\ lockR r = !decide (ownR r = 0) /\ (ownR r = 0 \/ ∃ t : Nat, t < X.length /\ ownR r = (t : Int) + 1 /\ (stT (atX X t) = 2 \/ stT (atX X t) = 3) /\ ∃ w ∈ wrT (atX X t), w.1 = r.1) := by
  rintro⟨rk,rv,ra,rb,rl,ro⟩
  unfold recB
  dsimp only
  simp only[Bool.and_eq_true,Bool.or_eq_true,decide_eq_true_eq,beq_iff_eq]
  constructor
  · rintro⟨⟨h1,h2⟩,h3⟩
    refine⟨h1,h2,?_⟩
    rcases h3 with h3|⟨⟨h3,h4⟩,h5,h6⟩
    ·exact .inl h3
    · have ht:(ro-1).toNat<X.length:=by omega
      exact .inr ⟨(ro-1).toNat,ht,by show ro=_;omega,h5,(zbS (h.tw _ ht).ws).1 h6⟩
  · rintro⟨h1,h2,h3⟩
    refine⟨⟨h1,h2⟩,?_⟩
    rcases h3 with h3|⟨t,h3,h4,h5,h6⟩
    ·exact .inl h3
    · have h4':ro=(t:Int)+1:=h4
      subst h4'
      rw[toN]
      exact .inr ⟨⟨by omega,by omega⟩,h5,(zbS (h.tw _ h3).ws).2 h6⟩
 rw[zal]
 constructor
 · intro hall k
   rcases recOr_cases h.rk k with⟨h1,h2,_⟩|⟨_,h2,_⟩
   · obtain⟨i,h3,h4⟩:=List.mem_iff_getElem.1 h1
     have:=hall i h3
     rw[gd h3,h4,Bool.not_eq_false']at this
     have:=(key _).1 this
     have hk:(recOr R k).1=k:=h2
     rw[hk]at this
     exact this
   · rw[h2]
     exact⟨he,rfl,.inl rfl⟩
 · intro hall k hk
   have hm:=zaf hk R0
   have:=hall (kR (R.getD k R0))
   rw[zcj h.rk hm]at this
   rw[Bool.not_eq_false']
   exact (key _).2 this
theorem zeg {R:List Rc}{X:List Tn}(h:WB R X){t:Nat}(ht:t<X.length):ownB R (X.getD t T0)=false↔((stT (atX X t)=2\/stT (atX X t)=3)->∀w∈wrT (atX X t),ownR (recOr R w.1)=(t:Int)+1):=by
 have hid:(X.getD t T0).1=(t:Int)+1:=(h.tw t ht).id
 show _↔(((X.getD t T0).2.1=2\/(X.getD t T0).2.1=3)->∀w∈(X.getD t T0).2.2.2.1,ownR (recOr R w.1)=(t:Int)+1)
 unfold ownB
 rw[hid]
 obtain⟨T,hT⟩:∃T,X.getD t T0=T:=⟨_,rfl⟩
 rw[hT]
 rw[Bool.and_eq_false_iff,zal]
 constructor
 · intro hh hs w hw
   rcases hh with hh|hh
   · simp only[Bool.or_eq_false_iff,decide_eq_false_iff_not]at hh
     omega
   · obtain⟨i,h1,h2⟩:=List.mem_iff_getElem.1 hw
     have:=hh i h1
     rw[gd h1,h2,Bool.not_eq_false',decide_eq_true_eq]at this
     exact this
 · intro hh
   by_cases hs:T.2.1=2\/T.2.1=3
   · refine .inr fun i hi=>?_
     rw[Bool.not_eq_false',decide_eq_true_eq]
     exact hh hs _ (zaf hi C0)
   · left
     simp only[Bool.or_eq_false_iff,decide_eq_false_iff_not]
     omega
theorem zdY {R:List Rc}{X:List Tn}(h:WB R X){t:Nat}(ht:t<X.length):tidB (X.getD t T0)=true↔((stT (atX X t)=3\/stT (atX X t)=4)\/(teT (atX X t)=0/\tnT (atX X t)=0)):=by
 have hf:(X.getD t T0).2.2.2.2.2.2=false:=(h.tw t ht).td.2
 unfold tidB
 rw[hf]
 simp only[Bool.or_eq_true,Bool.and_eq_true,decide_eq_true_eq,beq_self_eq_true,and_true]
theorem ze7 (T:Tn):s34 T=true↔stT T=3\/stT T=4:=by
 unfold s34
 simp only[Bool.or_eq_true,decide_eq_true_eq]
theorem zfv {O:List Int}(h:∀k,k<O.length->O.getD k 0∉O.take k):O.Nodup:=by
 rw[List.nodup_iff_pairwise_ne,List.pairwise_iff_getElem]
 intro i j hi hj hij e
 have:=h j hj
 rw[gd hj]at this
 apply this
 rw[<- e]
 exact List.mem_iff_getElem.2 ⟨i,by rw[List.length_take];omega,by rw[List.getElem_take]⟩
theorem zfy {O:List Int}(h:O.Nodup){k:Nat}(hk:k<O.length):O.getD k 0∉O.take k:=by
 intro hm
 obtain⟨i,h1,h2⟩:=List.mem_iff_getElem.1 hm
 rw[List.length_take]at h1
 rw[List.getElem_take,gd hk]at h2
 rw[List.nodup_iff_pairwise_ne,List.pairwise_iff_getElem]at h
 exact h i k (by omega) hk (by omega) h2
theorem zjq {e:Int}{R:List Rc}{X:List Tn}{O:List Int}(h:WB R X):isB e R X O=true↔GS e R X O:=by
 unfold isB
 simp only[Bool.and_eq_true,decide_eq_true_eq,Bool.not_eq_true']
 constructor
 · rintro⟨h1,h2,h3,h4⟩
   have h3:=(zek h (by omega)).1 h3
   unfold ordB at h2
   rw[zal]at h2 h4
   have h2':∀k,k<O.length->(1<=O.getD k 0/\O.getD k 0<=X.length)/\O.getD k 0∉O.take k:=fun k hk=>by
    have:=h2 k hk
    simp only[Bool.or_eq_false_iff,Bool.not_eq_false',Bool.and_eq_true,decide_eq_true_eq,decide_eq_false_iff_not]at this
    exact this
   have h4':∀t,t<X.length->tidB (X.getD t T0)=true/\decide (((t:Int)+1)∈O)=s34 (X.getD t T0)/\ownB R (X.getD t T0)=false:=fun t ht=>by
    have:=h4 t ht
    unfold txB at this
    simp only[Bool.or_eq_false_iff,Bool.not_eq_false',bne_eq_false_iff_eq]at this
    exact⟨this.1.1,this.1.2,this.2⟩
   exact {
    he:=h1
    re:=h3
    xs:=fun t ht=>(zdY h ht).1 (h4' t ht).1
    xo:=fun t ht=>(zeg h ht).1 (h4' t ht).2.2
    on:=zfv fun k hk=>(h2' k hk).2
    oi := fun o => by
     constructor
     · intro ho
       obtain⟨i,c1,c2⟩:=List.mem_iff_getElem.1 ho
       have c3:=(h2' i c1).1
       rw[gd c1,c2]at c3
       have ht:(o-1).toNat<X.length:=by omega
       have c4:=(h4' _ ht).2.1
       rw[show (((o-1).toNat:Nat):Int)+1=o by omega,decide_eq_true ho]at c4
       exact⟨_,ht,by omega,(ze7 _).1 c4.symm⟩
     · rintro⟨t,c1,rfl,c3⟩
       have c4:=(h4' t c1).2.1
       rw[(ze7 _).2 c3,decide_eq_true_eq]at c4
       exact c4 }
 · intro g
   refine⟨g.he,?_,(zek h (by have:=g.he;omega)).2 g.re,?_⟩
   · unfold ordB
     rw[zal]
     intro k hk
     simp only[Bool.or_eq_false_iff,Bool.not_eq_false',Bool.and_eq_true,decide_eq_true_eq,decide_eq_false_iff_not]
     obtain⟨t,c1,c2,_⟩:=(g.oi _).1 (zaf hk 0)
     exact⟨by omega,zfy g.on hk⟩
   · rw[zal]
     intro t ht
     unfold txB
     simp only[Bool.or_eq_false_iff,Bool.not_eq_false',bne_eq_false_iff_eq]
     refine⟨⟨(zdY h ht).2 (g.xs t ht),?_⟩,(zeg h ht).2 (g.xo t ht)⟩
     rw[Bool.eq_iff_iff,decide_eq_true_eq,ze7,g.oi]
     constructor
     · rintro⟨s,c1,c2,c3⟩
       have:s=t:=by omega
       subst this;exact c3
     ·intro c;exact⟨t,ht,rfl,c⟩
theorem zgC (X:List Tn):∀n,cn X n=(((List.range n).filter fun t=>s34 (X.getD t T0)).length:Int)
 |0=>rfl
 | n + 1 => by
   show (if s34 (X.getD n T0)=true then cn X n+1 else cn X n)=_
   rw[List.range_succ,List.filter_append,List.length_append,zgC X n]
   cases hs:s34 (X.getD n T0) with
   | true =>
     have e1:List.filter (fun t=>s34 (X.getD t T0)) [n] = [n]:=List.filter_cons_of_pos (p:=fun t=>s34 (X.getD t T0)) hs
     rw[if_pos rfl,e1];rfl
   | false =>
     have e1:List.filter (fun t=>s34 (X.getD t T0)) [n] = []:=List.filter_cons_of_neg (p:=fun t=>s34 (X.getD t T0)) (by rw[hs];simp)
     rw[if_neg (by simp),e1];rfl
def s34L (X:List Tn):List Int:=((List.range X.length).filter fun t=>s34 (X.getD t T0)).map fun t:Nat=>(t:Int)+1
theorem zcS (X:List Tn)(o:Int):o∈s34L X ↔ ∃t:Nat,t<X.length/\o=(t:Int)+1/\(stT (atX X t)=3\/stT (atX X t)=4):=by
 unfold s34L
 rw[List.mem_map]
 constructor
 · rintro⟨t,h1,rfl⟩
   rw[List.mem_filter,List.mem_range]at h1
   exact⟨t,h1.1,rfl,(ze7 _).1 h1.2⟩
 · rintro⟨t,h1,rfl,h2⟩
   exact⟨t,List.mem_filter.2 ⟨List.mem_range.2 h1,(ze7 _).2 h2⟩,rfl⟩
theorem ziE (X:List Tn):(s34L X).Nodup:=by
 unfold s34L
 rw[List.nodup_iff_pairwise_ne,List.pairwise_map]
 refine List.Pairwise.imp (fun {a b} hab=>?_) (List.Pairwise.filter _ (List.nodup_iff_pairwise_ne.1 List.nodup_range))
 omega
theorem zhV (X:List Tn):((s34L X).length:Int)=cn X X.length:=by
 rw[zgC];unfold s34L;rw[List.length_map]
theorem zjH (X:List Tn)(o:Int):(stO X o=3\/stO X o=4)↔o∈s34L X:=by
 rw[zcS]
 unfold stO
 constructor
 · intro hh
   split at hh
   · rename_i c
     exact⟨(o-1).toNat,by omega,by omega,hh⟩
   ·omega
 · rintro⟨t,h1,rfl,h2⟩
   rw[if_pos (by omega),toN]
   exact h2
theorem zkQ {e:Int}{R:List Rc}{X:List Tn}{O:List Int}(h:WB R X):spB e R X O=true↔GS e R X O:=by
 unfold spB
 simp only[Bool.and_eq_true,decide_eq_true_eq,Bool.not_eq_true']
 constructor
 · rintro⟨h1,h2,h3,h4,h5⟩
   have h2:=(zek h (by omega)).1 h2
   rw[zal]at h3
   have h3':∀t,t<X.length->ownB R (X.getD t T0)=false/\tidB (X.getD t T0)=true:=fun t ht=>by
    have:=h3 t ht
    simp only[Bool.not_eq_false',Bool.and_eq_true,Bool.not_eq_true']at this
    exact this
   unfold orS at h4
   rw[zal]at h4
   have h4':∀k,k<O.length->O.getD k 0∈s34L X/\O.getD k 0∉O.take k:=fun k hk=>by
    have:=h4 k hk
    simp only[Bool.or_eq_false_iff,decide_eq_false_iff_not,Bool.and_eq_false_iff,Bool.not_eq_false',decide_eq_true_eq]at this
    exact⟨(zjH X _).1 this.1,this.2⟩
   have hnd:O.Nodup:=zfv fun k hk=>(h4' k hk).2
   have hsub:∀o∈O,o∈s34L X:=fun o ho=>by
    obtain⟨i,c1,c2⟩:=List.mem_iff_getElem.1 ho
    have:=(h4' i c1).1
    rw[gd c1,c2]at this
    exact this
   exact {
    he:=h1
    re:=h2
    xs:=fun t ht=>(zdY h ht).1 (h3' t ht).2
    xo:=fun t ht=>(zeg h ht).1 (h3' t ht).1
    on:=hnd
    oi:=fun o=>by
     rw[<- zcS]
     refine⟨hsub o,fun ho=>?_⟩
     apply Classical.byContradiction
     intro hno
     have:=List.Nodup.length_le_of_subset (l₁:=o::O) (l₂:=s34L X) (List.nodup_cons.2 ⟨hno,hnd⟩) (fun a ha=>by
      rcases List.mem_cons.1 ha with rfl|ha
      ·exact ho
      ·exact hsub a ha)
     have hl:=zhV X
     simp only[List.length_cons]at this
     omega }
 · intro g
   refine⟨g.he,(zek h (by have:=g.he;omega)).2 g.re,?_,?_,?_⟩
   · rw[zal]
     intro t ht
     simp only[Bool.not_eq_false',Bool.and_eq_true,Bool.not_eq_true']
     exact⟨(zeg h ht).2 (g.xo t ht),(zdY h ht).2 (g.xs t ht)⟩
   · unfold orS
     rw[zal]
     intro k hk
     simp only[Bool.or_eq_false_iff,decide_eq_false_iff_not,Bool.and_eq_false_iff,Bool.not_eq_false',decide_eq_true_eq]
     exact⟨(zjH X _).2 ((zcS X _).2 ((g.oi _).1 (zaf hk 0))),zfy g.on hk⟩
   · have hl:=zhV X
     have h1:=List.Nodup.length_le_of_subset g.on (l₂:=s34L X) (fun o ho=>(zcS X o).2 ((g.oi o).1 ho))
     have h2:=List.Nodup.length_le_of_subset (ziE X) (l₂:=O) (fun o ho=>(g.oi o).2 ((zcS X o).1 ho))
     omega
theorem zhI {e:Int}{R:List Rc}{X:List Tn}{O:List Int}(h:WB R X)(hO:O.length<=1000):∃b,impl_isStore e R X O=some b/\spec_GoodStore e R X O=some b/\(b=true↔GS e R X O):=by
 refine⟨isB e R X O,zeR h hO,?_,zjq h⟩
 rw[zds h hO]
 congr 1
 rw[Bool.eq_iff_iff,zkQ h,zjq h]
def SX (x:Stp):Prop:=(isKy x.2.2.1=true->K4 x.2.2.1)/\x.2.2.1.length<=1000/\x.2.2.2.length<=1000
def SXL (l:List Stp):Prop:=∀x∈l,SX x
theorem zjM {l m:List Stp}(h:SXL l)(k:SXL m):SXL (l++m):=fun x hx=>by
 rcases List.mem_append.1 hx with hx|hx
 ·exact h x hx
 ·exact k x hx
theorem zla {x:Stp}(h:SX x):SXL (x :: []):=fun y hy=>by
 simp only[List.mem_cons,List.not_mem_nil,or_false]at hy
 subst hy;exact h
theorem zkO {a:List Int}{p h:Int}(hb:Byt a)(h0:0<=p)(h1:p<=100000000000000000-10):Ok (spec_l1Cur_key a p h) (fun r=>p<=r.1/\r.1<=p+4/\(isKy r.2.2=true->K4 r.2.2)/\r.2.2.length<=9):=by
 unfold spec_l1Cur_key
 refine Ok.bind (zfB hb h0 (by omega) _) fun r hr=>?_
 refine Ok.ite (fun _=>?_) fun _=>?_
 · refine Ok.bind (zhY hb (by omega) (by omega) (by simp)) fun s hs=>?_
   obtain⟨_,_,hm⟩:=hs
   refine Ok.ret ⟨by dsimp only;omega,by dsimp only;omega,?_⟩
   simp only[List.mem_cons,List.not_mem_nil,or_false]at hm
   rcases hm with h|h|h<;>rw[h]<;>exact⟨fun hh=>absurd hh (by decide),by decide⟩
 · refine Ok.bind (zhY hb (by omega) (by omega) (by simp)) fun s hs=>?_
   obtain⟨_,_,hm⟩:=hs
   refine Ok.ret ⟨by dsimp only;omega,by dsimp only;omega,fun _=>hm,?_⟩
   simp only[List.mem_cons,List.not_mem_nil,or_false]at hm
   rcases hm with h|h|h|h<;>rw[h]<;>decide
theorem zlz (k t:Int):SX (k,t,[],[]):=⟨fun h=>absurd (show isKy []=true from h) (by decide),Nat.zero_le _,Nat.zero_le _⟩
theorem ziy {a:List Int}(hb:Byt a){p h:Int}(h0:0<=p)(h1:p<=1000000):Ok (spec_l1Cur_steps a p h) (fun r=>p<=r.1/\r.1<=p+10000/\r.2.2.length<=400/\SXL r.2.2):=by
 unfold spec_l1Cur_steps
 refine Ok.bind (zbL hb h0 (by omega) _) fun r0 q0=>?_
 refine Ok.bind (zfB hb (by omega) (by omega) _) fun r1 q1=>?_
 refine Ok.bind (P:=fun s=>p<=s.1/\s.1<=p+10/\0<=s.2.2/\s.2.2<=121) ?_ fun s3 hs3=>?_
 · refine Ok.ite (fun _=>?_) fun _=>?_
   · refine Ok.bind (zbL hb (by omega) (by omega) _) fun r2 q2=>?_
     rw[zae (by omega) (by omega)]
     exact Ok.ret ⟨by dsimp only;omega,by dsimp only;omega,by dsimp only;omega,by dsimp only;omega⟩
   ·exact Ok.ret ⟨by dsimp only;omega,by dsimp only;omega,by dsimp only;omega,by dsimp only;omega⟩
 refine Ok.bind (P:=fun s:Int × Int × List Stp=>p<=s.1/\s.1<=p+10000/\s.2.2.length<=400/\SXL s.2.2) ?_ fun s hs=>Ok.ret hs
 refine Ok.bind (P:=fun s:Int × Int × List Stp=>p<=s.1/\s.1<=p+10000/\s.2.2.length<=400/\SXL s.2.2) ?_ fun s hs=>Ok.ret hs
 refine ziR (fun s:Int × Int × List Stp × Int × Int=>p<=s.1/\s.1<=p+10+40*(s3.2.2-s.2.2.2.2)/\0<=s.2.2.2.2/\s.2.2.2.2<=s3.2.2/\(s.2.2.1.length:Int)<=3*(s3.2.2-s.2.2.2.2)/\SXL s.2.2.1) (fun s=>s.2.2.2.2.toNat) ?_
  ⟨by dsimp only;omega,by dsimp only;omega,hs3.2.2.1,Int.le_refl _,by dsimp only[List.length_nil];omega,fun e he=>by simp at he⟩
 rintro⟨u,v,l,bg,n⟩ ⟨g1,g2,g3,g4,g5,g6⟩
 dsimp only at g1 g2 g3 g4 g5 g6
 refine Ok.ited (fun hc=>?_) fun hc=>?_
 · dsimp only at hc ⊢
   refine Ok.bind (P:=fun s:Int × Int × List Stp × Int=>u<=s.1/\s.1<=u+40/\s.2.2.1.length<=l.length+3/\SXL s.2.2.1) ?_ fun s hs=>?_
   · refine Ok.bind (zbL hb (by omega) (by omega) _) fun r5 q5=>?_
     refine Ok.bind (zkO hb (by omega) (by omega)) fun r6 q6=>?_
     refine Ok.bind (zj0 hb (by omega) (by omega)) fun r7 q7=>?_
     refine Ok.bind (P:=fun s:Int × Int × Int=>u<=s.1/\s.1<=u+18) ?_ fun s9 q9=>?_
     · refine Ok.ite (fun _=>?_) fun _=>Ok.ret ⟨by dsimp only;omega,by dsimp only;omega⟩
       refine Ok.bind (zbL hb (by omega) (by omega) _) fun r8 q8=>Ok.ret ⟨by dsimp only;omega,by dsimp only;omega⟩
     refine Ok.bind (zbL hb (by omega) (by omega) _) fun r10 q10=>?_
     refine Ok.bind (P:=fun s:Int × Int × List Stp × Int × Int × Int × Tx × Tx=>u<=s.1/\s.1<=u+26/\s.2.2.1.length<=l.length+2/\SXL s.2.2.1/\(isKy s.2.2.2.2.2.2.1=true->K4 s.2.2.2.2.2.2.1)/\s.2.2.2.2.2.2.1.length<=1000/\s.2.2.2.2.2.2.2.length<=1000) ?_ fun s26 q26=>?_
     · refine Ok.bind (P:=fun _=>True) (Ok.ite (fun _=>Ok.ret trivial) fun _=>Ok.ret trivial) fun s11 _=>?_
       refine Ok.bind (P:=fun s:Int × Int × List Stp × Int × Int × Int × Tx × Tx=>u<=s.1/\s.1<=u+26/\s.2.2.1.length<=l.length+2/\SXL s.2.2.1/\(isKy s.2.2.2.2.2.2.1=true->K4 s.2.2.2.2.2.2.1)/\s.2.2.2.2.2.2.1.length<=1000/\s.2.2.2.2.2.2.2.length<=1000) ?_ fun s hs=>Ok.ret hs
       refine Ok.ite (fun _=>?_) fun _=>?_
       ·exact Ok.ret ⟨by dsimp only;omega,by dsimp only;omega,by dsimp only;omega,g6,fun hh=>absurd (show isKy []=true from hh) (by decide),Nat.zero_le _,Nat.zero_le _⟩
       refine Ok.bind (P:=fun _=>True) (Ok.ite (fun _=>Ok.ret trivial) fun _=>Ok.bind (P:=fun _=>True) (Ok.ite (fun _=>Ok.ret trivial) fun _=>Ok.ret trivial) fun _ _=>Ok.ret trivial) fun s13 _=>?_
       have hret:∀k:Int,Ok (some (r10.1,r10.2.1,l,k):Option (Int × Int × List Stp × Int)) (fun s=>u<=s.1/\s.1<=u+22/\s.2.2.1.length<=l.length+2/\SXL s.2.2.1):=fun k=>Ok.ret ⟨by dsimp only;omega,by dsimp only;omega,by dsimp only;omega,g6⟩
       refine Ok.bind (P:=fun s:Int × Int × List Stp × Int=>u<=s.1/\s.1<=u+22/\s.2.2.1.length<=l.length+2/\SXL s.2.2.1) ?_ fun s24 q24=>?_
       · refine Ok.ite (fun _=>hret _) fun _=>?_
         refine Ok.bind (P:=fun _=>True) (Ok.ite (fun _=>Ok.ret trivial) fun _=>Ok.ret trivial) fun s14 _=>?_
         refine Ok.bind (P:=fun s:Int × Int × List Stp × Int=>u<=s.1/\s.1<=u+22/\s.2.2.1.length<=l.length+2/\SXL s.2.2.1) ?_ fun s hs=>Ok.ret hs
         refine Ok.ite (fun _=>hret _) fun _=>?_
         refine Ok.bind (P:=fun s:Int × Int × List Stp × Int=>u<=s.1/\s.1<=u+22/\s.2.2.1.length<=l.length+2/\SXL s.2.2.1) ?_ fun s hs=>Ok.ret hs
         refine Ok.ite (fun _=>hret _) fun _=>?_
         refine Ok.bind (P:=fun s:Int × Int × List Stp × Int=>u<=s.1/\s.1<=u+22/\s.2.2.1.length<=l.length+2/\SXL s.2.2.1) ?_ fun s hs=>Ok.ret hs
         refine Ok.ite (fun _=>hret _) fun _=>?_
         refine Ok.bind (P:=fun s:Int × Int × List Stp × Int=>u<=s.1/\s.1<=u+22/\s.2.2.1.length<=l.length+2/\SXL s.2.2.1) ?_ fun s hs=>Ok.ret hs
         refine Ok.ite (fun _=>hret _) fun _=>?_
         refine Ok.bind (P:=fun s:Int × Int × List Stp × Int=>u<=s.1/\s.1<=u+22/\s.2.2.1.length<=l.length+2/\SXL s.2.2.1) ?_ fun s hs=>Ok.ret hs
         refine Ok.ite (fun _=>?_) fun _=>?_
         · refine Ok.chk (zak (by simp only[List.length_append,List.length_cons,List.length_nil];omega)) ?_
           refine Ok.ret ⟨by dsimp only;omega,by dsimp only;omega,by simp,?_⟩
           refine zjM g6 fun x hx=>?_
           simp only[List.mem_cons,List.not_mem_nil,or_false]at hx
           rcases hx with rfl|rfl<;>exact zlz _ _
         · refine Ok.bind (zfB hb (by omega) (by omega) _) fun r17 q17=>?_
           refine Ok.bind (P:=fun _=>True) (Ok.ite (fun _=>Ok.ret trivial) fun _=>Ok.ret trivial) fun s18 _=>?_
           exact Ok.ret ⟨by dsimp only;omega,by dsimp only;omega,by dsimp only;omega,g6⟩
       ·exact Ok.ret ⟨q24.1,by dsimp only;omega,q24.2.2.1,q24.2.2.2,q6.2.2.1,by dsimp only;omega,by dsimp only;omega⟩
     · refine Ok.bind (zfB hb (by omega) (by omega) _) fun r27 q27=>?_
       refine Ok.bind (P:=fun s:Int × Int × Int=>u<=s.1/\s.1<=u+30) ?_ fun s30 q30=>?_
       · refine Ok.ite (fun _=>?_) fun _=>Ok.ret ⟨by dsimp only;omega,by dsimp only;omega⟩
         refine Ok.bind (zhd hb (by omega) (by omega) (by simp)) fun r29 q29=>Ok.ret ⟨by dsimp only;omega,by dsimp only;omega⟩
       · refine Ok.chk (zak (by simp only[List.length_append,List.length_cons,List.length_nil];omega)) ?_
         refine Ok.ret ⟨q30.1,by dsimp only;omega,by simp only[List.length_append,List.length_cons,List.length_nil];omega,?_⟩
         exact zjM q26.2.2.2.1 (zla ⟨q26.2.2.2.2.1,q26.2.2.2.2.2⟩)
   · rw[zae (by omega) (by omega)]
     refine Ok.ret ⟨⟨by dsimp only;omega,by dsimp only;omega,by dsimp only;omega,by dsimp only;omega,by dsimp only;omega,hs.2.2.2⟩,by dsimp only;omega⟩
 · dsimp only at hc ⊢
   refine Ok.ret ⟨g1,by dsimp only;omega,by dsimp only;omega,g6⟩
abbrev Sr:=List Rc × List Tn × List Int
abbrev X0:Stp:=(0,(0,([],[])))
def stS (e:Int)(S:Sr)(x:Stp):Sr:=((SD e S.1 S.2.1 S.2.2 x).1,(SD e S.1 S.2.1 S.2.2 x).2.1,(SD e S.1 S.2.1 S.2.2 x).2.2.1)
def plS (e:Int)(l:List Stp):Sr:=l.foldl (stS e) ([],[],[])
def cdS (e:Int)(l:List Stp)(k:Nat):List Int:=(List.range k).map fun i=>(SD e (plS e (l.take i)).1 (plS e (l.take i)).2.1 (plS e (l.take i)).2.2 (l.getD i X0)).2.2.2.2
theorem zel (e:Int)(l:List Stp){k:Nat}(hk:k<l.length):plS e (l.take (k+1))=stS e (plS e (l.take k)) (l.getD k X0):=by
 rw[zaq l X0 hk];unfold plS;rw[List.foldl_append];rfl
theorem zim (e:Int)(l:List Stp)(k:Nat):cdS e l (k+1)=cdS e l k ++ [(SD e (plS e (l.take k)).1 (plS e (l.take k)).2.1 (plS e (l.take k)).2.2 (l.getD k X0)).2.2.2.2]:=by
 unfold cdS;rw[List.range_succ,List.map_append];rfl
theorem zhH (e:Int)(l:List Stp)(k:Nat):(cdS e l k).length=k:=by unfold cdS;simp
structure GI (e:Int)(S:Sr):Prop where
 wb:WB S.1 S.2.1
 gs:GS e S.1 S.2.1 S.2.2
 te:TE e S.2.1
theorem GI.nil{e:Int}(he:1<=e/\e<=1000):GI e ([],[],[]):=by
 have hr:∀k,recOr [] k=(k,[],0,0,false,0):=fun k=>zcF (S:=[]) List.Pairwise.nil (fun r hr=>by cases hr)
 exact {
  wb:={
   rk:=List.Pairwise.nil
   kk:=fun r hr=>by cases hr
   rv:=fun k=>by show isVl (recOr [] k).2.1=true/\_;rw[hr];exact⟨rfl,rfl⟩
   xl:=Nat.zero_le _
   tw:=fun t ht=>absurd ht (Nat.not_lt_zero _) }
  gs:={
   he:=he
   re:=fun k=>by
    show (recOr [] k).2.2.1<=e/\_
    rw[hr]
    exact⟨by show (0:Int)<=e;omega,rfl,.inl rfl⟩
   xs:=fun t ht=>absurd ht (Nat.not_lt_zero _)
   xo:=fun t ht=>absurd ht (Nat.not_lt_zero _)
   on:=List.nodup_nil
   oi:=fun o=>⟨fun h=>absurd h (by simp),fun⟨t,h1,_⟩=>absurd h1 (Nat.not_lt_zero _)⟩ }
  te:=fun t ht=>absurd ht (Nat.not_lt_zero _) }
theorem PI'.nil:PI' [] [] [] where
 p1:=List.Pairwise.nil
 p2:=fun t ht=>absurd ht (Nat.not_lt_zero _)
 p3:=fun t ht=>absurd ht (Nat.not_lt_zero _)
theorem GI.step{e:Int}{S:Sr}(h:GI e S){x:Stp}(hx:SX x):GI e (stS e S x)/\(PI' S.1 S.2.1 S.2.2->PI' (stS e S x).1 (stS e S x).2.1 (stS e S x).2.2):=by
 have:=zkI h.wb h.gs h.te x hx.1
 exact⟨⟨this.wb,this.gs,this.te⟩,this.pi⟩
theorem zco {e:Int}(he:1<=e/\e<=1000){l:List Stp}(hl:SXL l):∀k,k<=l.length->GI e (plS e (l.take k))/\PI' (plS e (l.take k)).1 (plS e (l.take k)).2.1 (plS e (l.take k)).2.2
 |0,_=>⟨by rw[List.take_zero];exact GI.nil he,by rw[List.take_zero];exact PI'.nil⟩
 | k + 1, hk => by
   obtain⟨h1,h2⟩:=zco he hl k (by omega)
   obtain⟨h3,h4⟩:=h1.step (hl _ (zaf (show k<l.length by omega) X0))
   rw[zel e l (by omega)]
   exact⟨h3,h4 h2⟩
def plR (e:Int)(l:List Stp):Int × List Rc × List Tn × List Int × List Int × Bool :=
 if (1<=e/\e<=1000)/\l.length<=120 then (e,(plS e l).1,(plS e l).2.1,(plS e l).2.2,cdS e l l.length,true) else (0,[],[],[],[],false)
theorem zlo {e:Int}{l:List Stp}(h:¬((1<=e/\e<=1000)/\l.length<=120)):(!(decide (1<=e)&&decide (e<=1000))||decide ((120:Int)<((l.length:Nat):Int)))=true:=by
 rw[Bool.or_eq_true,Bool.not_eq_true',Bool.and_eq_false_iff]
 simp only[decide_eq_true_eq,decide_eq_false_iff_not]
 omega
theorem zdt {e:Int}{l:List Stp}(hl:SXL l):impl_PlayStore e l=some (plR e l):=by
 unfold impl_PlayStore plR
 by_cases c:(1<=e/\e<=1000)/\l.length<=120
 case neg =>
  simp only[zaH,bind_some,zdB,zlo c,if_true]
  rw[if_neg c]
 have hc:=c
 obtain⟨⟨c1,c2⟩,c3⟩:=c
 rw[if_pos hc]
 simp only[zaH,bind_some,zdB,zak c1,zak c2,zbe (show ¬(120:Int)<((l.length:Nat):Int) by omega),Bool.and_self,Bool.not_true,Bool.or_self,Bool.false_eq_true,if_false]
 refine zac (zac (zah (fun k:Nat=>(e,(plS e (l.take k)).1,(plS e (l.take k)).2.1,(plS e (l.take k)).2.2,cdS e l k,(k:Int))) l.length (e,(plS e l).1,(plS e l).2.1,(plS e l).2.2,cdS e l l.length) (by rw[List.take_zero];rfl) (fun k hk=>?_) (by simp)) rfl) rfl
 have k1:(k:Int)<l.length:=by omega
 have k0:(0:Int)<=(k:Int):=by omega
 have ki:i64 ((k:Int)+1)=((k+1:Nat):Int):=by rw[zae (by omega) (by omega)];rfl
 obtain⟨g,_⟩:=zco ⟨c1,c2⟩ hl k (by omega)
 have hx:=hl _ (zaf hk X0)
 have hst:=zeW (g.wb.ss g.gs) (l.getD k X0) (by have:=hx.2.2;omega)
 have hcl:=zhH e l k
 rw[zel e l hk,zim]
 obtain⟨x,hx'⟩:∃x,l.getD k X0=x:=⟨_,rfl⟩
 have hx2:l.getD k (0,(0,([],[])))=x:=hx'
 rw[hx']at hst ⊢
 have hle:decide ((((cdS e l k ++ [(SD e (plS e (l.take k)).1 (plS e (l.take k)).2.1 (plS e (l.take k)).2.2 x).2.2.2.2]).length:Nat):Int)<=17592186044416)=true:=by
  rw[List.length_append,hcl];exact zak (by simp only[List.length_cons,List.length_nil];omega)
 simp only[k1,k0,decide_true,Bool.and_self,zaa,if_true,Int.toNat_natCast,ki,hx2,hst,bind_some,hle]
 rfl
theorem zd5 {e:Int}{l:List Stp}(hl:SXL l):spec_PlayStore e l=some (plR e l):=by
 unfold spec_PlayStore plR
 by_cases c:(1<=e/\e<=1000)/\l.length<=120
 case neg =>
  simp only[za5,bind_some,zdB,zlo c,if_true]
  rw[if_neg c]
 have hc:=c
 obtain⟨⟨c1,c2⟩,c3⟩:=c
 rw[if_pos hc]
 simp only[za5,bind_some,zdB,zak c1,zak c2,zbe (show ¬(120:Int)<((l.length:Nat):Int) by omega),Bool.and_self,Bool.not_true,Bool.or_self,Bool.false_eq_true,if_false]
 refine zac (a:=(e,(plS e l).1,(plS e l).2.1,(plS e l).2.2,cdS e l l.length)) (zac (zah (fun k:Nat=>(e,(plS e (l.take k)).1,(plS e (l.take k)).2.1,(plS e (l.take k)).2.2,cdS e l k,(k:Int))) l.length (e,(plS e l).1,(plS e l).2.1,(plS e l).2.2,cdS e l l.length) (by rw[List.take_zero];rfl) (fun k hk=>?_) (by simp)) rfl) ?_
 · have k1:(k:Int)<l.length:=by omega
   have k0:(0:Int)<=(k:Int):=by omega
   have ki:i64 ((k:Int)+1)=((k+1:Nat):Int):=by rw[zae (by omega) (by omega)];rfl
   obtain⟨g,_⟩:=zco ⟨c1,c2⟩ hl k (by omega)
   have hx:=hl _ (zaf hk X0)
   have hss:=g.wb.ss g.gs
   have hcp:=hss.cp.2
   have hst:=zi9 hss (l.getD k X0) (by have:=hx.2.1;omega) (by have:=hx.2.2;omega)
   have hcl:=zhH e l k
   rw[zel e l hk,zim]
   obtain⟨x,hx'⟩:∃x,l.getD k X0=x:=⟨_,rfl⟩
   have hx2:l.getD k (0,(0,([],[])))=x:=hx'
   rw[hx']at hst ⊢
   have hle:decide ((((cdS e l k ++ [(SD e (plS e (l.take k)).1 (plS e (l.take k)).2.1 (plS e (l.take k)).2.2 x).2.2.2.2]).length:Nat):Int)<=17592186044416)=true:=by
    rw[List.length_append,hcl];exact zak (by simp only[List.length_cons,List.length_nil];omega)
   simp only[k1,k0,decide_true,Bool.and_self,zaa,if_true,Int.toNat_natCast,ki,hx2,hcp,hst,bind_some,hle,zdB]
   have hno:¬((SD e (plS e (l.take k)).1 (plS e (l.take k)).2.1 (plS e (l.take k)).2.2 x).2.2.2.2=0\/(SD e (plS e (l.take k)).1 (plS e (l.take k)).2.1 (plS e (l.take k)).2.2 x).2.2.2.2=3)->stS e (plS e (l.take k)) x=plS e (l.take k):=fun hh=>by
    have:=zlw (fun h0=>hh (.inl h0)) (fun h3=>hh (.inr h3))
    unfold stS;rw[this]
   by_cases cc:(SD e (plS e (l.take k)).1 (plS e (l.take k)).2.1 (plS e (l.take k)).2.2 x).2.2.2.2=0\/(SD e (plS e (l.take k)).1 (plS e (l.take k)).2.1 (plS e (l.take k)).2.2 x).2.2.2.2=3
   · have hb:(decide ((SD e (plS e (l.take k)).1 (plS e (l.take k)).2.1 (plS e (l.take k)).2.2 x).2.2.2.2=0)||decide ((SD e (plS e (l.take k)).1 (plS e (l.take k)).2.1 (plS e (l.take k)).2.2 x).2.2.2.2=3))=true:=by
      rw[Bool.or_eq_true,decide_eq_true_eq,decide_eq_true_eq];exact cc
     rw[hb];rfl
   · have hb:(decide ((SD e (plS e (l.take k)).1 (plS e (l.take k)).2.1 (plS e (l.take k)).2.2 x).2.2.2.2=0)||decide ((SD e (plS e (l.take k)).1 (plS e (l.take k)).2.1 (plS e (l.take k)).2.2 x).2.2.2.2=3))=false:=by
      rw[Bool.eq_false_iff,ne_eq,Bool.or_eq_true,decide_eq_true_eq,decide_eq_true_eq];exact cc
     rw[hb,hno cc];rfl
 · obtain⟨g,_⟩:=zco ⟨c1,c2⟩ hl l.length (Nat.le_refl _)
   rw[List.take_length]at g
   have hcp:=(g.wb.ss g.gs).cp.2
   show (spec_l5Own e (plS e l).1 (plS e l).2.1 (plS e l).2.2).bind _=_
   rw[hcp];rfl
structure DS (e:Int)(R:List Rc)(X:List Tn)(O:List Int):Prop where
 wb:WB R X
 ol:O.length<=1000
 te:1<=e/\e<=1000->TE e X
theorem zk7 {R:List Rc}(h:SK kR R){i:Nat}(hi:i<R.length){r:Rc}(hr:r.1=(R.getD i R0).1):SK kR (R.set i r):=by
 show List.Pairwise _ _
 have hm:(R.set i r).map kR=R.map kR:=by
  rw[List.map_set]
  have:kR r=(R.map kR)[i]'(by simpa using hi):=by
   rw[List.getElem_map];rw[gd hi]at hr;exact hr
  rw[this];exact List.set_getElem_self _
 have h1:(R.map kR).Pairwise (fun x y=>Op.bytesLess x y=true):=List.pairwise_map.2 h
 rw[<- hm]at h1
 exact List.pairwise_map.1 h1
theorem zjA {R:List Rc}(h:SK kR R){i:Nat}(hi:i<R.length){r:Rc}(hr:r.1=(R.getD i R0).1)(k:Tx):recOr (R.set i r) k=if k=r.1 then r else recOr R k:=by
 have hs:=zk7 h hi hr
 by_cases c:k=r.1
 · rw[if_pos c]
   exact zdl hs (List.mem_iff_getElem.2 ⟨i,by rw[List.length_set];exact hi,by simp⟩) c.symm
 · rw[if_neg c]
   rcases recOr_cases h k with⟨h1,h2,_⟩|⟨h1,h2,_⟩
   · refine zdl hs ?_ h2
     obtain⟨j,h3,h4⟩:=List.mem_iff_getElem.1 h1
     have hij:i≠j:=by
      rintro rfl
      rw[gd hi,h4]at hr
      have h2':(recOr R k).1=k:=h2
      exact c (by rw[hr,h2'])
     exact List.mem_iff_getElem.2 ⟨j,by rw[List.length_set];exact h3,by rw[List.getElem_set_ne hij];exact h4⟩
   · rw[h2]
     refine zcF hs fun q hq e=>?_
     obtain⟨j,h3,h4⟩:=List.mem_iff_getElem.1 hq
     rw[List.length_set]at h3
     by_cases hij:i=j
     · subst hij
       simp at h4
       subst h4;exact c e.symm
     · rw[List.getElem_set_ne hij]at h4
       exact h1 q (h4▸List.getElem_mem h3) e
theorem DS.own{e:Int}{R:List Rc}{X:List Tn}{O:List Int}(h:DS e R X O)(hl:0<R.length)(o:Int) :
 DS e (R.set 0 ((R.getD 0 R0).1,(R.getD 0 R0).2.1,(R.getD 0 R0).2.2.1,(R.getD 0 R0).2.2.2.1,(R.getD 0 R0).2.2.2.2.1,o)) X O where
 wb:={
  rk:=zk7 h.wb.rk hl rfl
  kk := fun q hq => by
   obtain⟨j,h3,h4⟩:=List.mem_iff_getElem.1 hq
   rw[List.length_set]at h3
   by_cases hij:0=j
   · subst hij
     simp only[List.getElem_set_self]at h4
     rw[<- h4];have:=h.wb.kk (R.getD 0 R0) (zaf hl R0);exact this
   · rw[List.getElem_set_ne hij]at h4
     rw[<- h4];exact h.wb.kk _ (List.getElem_mem h3)
  rv := fun k => by
   have e1:=zjA h.wb.rk hl (r:=((R.getD 0 R0).1,(R.getD 0 R0).2.1,(R.getD 0 R0).2.2.1,(R.getD 0 R0).2.2.2.1,(R.getD 0 R0).2.2.2.2.1,o)) rfl k
   rw[e1]
   split
   · have:=h.wb.rv (kR (R.getD 0 R0))
     rw[zcj h.wb.rk (zaf hl R0)]at this
     exact this
   ·exact h.wb.rv k
  xl:=h.wb.xl
  tw:=h.wb.tw }
 ol:=h.ol
 te:=h.te
theorem zdX {a:List Int}(hb:Byt a):Ok (spec_DrawPlayStore a) (fun r=>SXL r.2):=by
 unfold spec_DrawPlayStore
 refine Ok.bind (zbL hb (by omega) (by omega) _) fun r0 q0=>?_
 refine Ok.bind (zfB hb (by omega) (by omega) _) fun r1 q1=>?_
 refine Ok.bind (P:=fun s=>0<=s.1/\s.1<=10) ?_ fun s4 hs4=>?_
 · refine Ok.ite (fun _=>?_) fun _=>Ok.ret ⟨by dsimp only;omega,by dsimp only;omega⟩
   refine Ok.bind (zhd hb (by omega) (by omega) (by simp)) fun r3 q3=>Ok.ret ⟨by dsimp only;omega,by dsimp only;omega⟩
 ·refine Ok.bind (ziy hb (by omega) (by omega)) fun r5 q5=>Ok.ret q5.2.2.2
noncomputable def maps_Keys_map_stringstring_string_string(a0:List Yd):Option (List Yd) :=
 some a0
noncomputable def slices_Sorted_string(a0:List Yd):Option ((List Yd) × List B8) :=
 chk (skeysOk a0) <|
 some (a0,(skeys a0))
noncomputable def impl_cellsOf(a0:List Yd):Option (List Yd) :=
 (maps_Keys_map_stringstring_string_string a0).bind fun r0 =>
 (slices_Sorted_string r0).bind fun r1 =>
 ((loopM (σ:=(List Yd) × Int) (X:=List Yd) (fun s2 =>
 (if (decide (s2.2<r1.2.length)) then
 ((chk (decide (0<=s2.2)&&decide (s2.2<r1.2.length)) <|
 let v3:List Yd:=(((r1.2.getD (Int.toNat s2.2) []),(mget r1.1 (r1.2.getD (Int.toNat s2.2) []) ([]:B8)))::([]:List Yd))
 let v4:List Yd:=(s2.1++v3)
 chk (decide ((v4.length:Int)<=(4398046511104:Int))) <|
 some v4:Option (List Yd)).bind fun s5 =>
 some (.inl (s5,i64 (s2.2+1))))
 else
 some (.inr s2.1))) (([]:List Yd),(0:Int))).bind fun x6 =>
 some x6:Option (List Yd)).bind fun s7 =>
 some s7
noncomputable def impl_ReplayOrder(a0:Int)(a1:List Yb)(a2:List Ya)(a3:List (Int))(a4:Int):Option ((List Yd) × Bool) :=
 (impl_isStore a0 a1 a2 a3).bind fun r0 =>
 (if (!(!r0)) then impl_in a4 (0:Int) (a3.length:Int) else some false).bind fun r1 =>
 let v2:Bool:=(if (!r0) then true else (!r1))
 if v2 then
 (some (([]:List Yd),false))
 else
 chk ((decide ((0:Int)<=0))&&(decide (0<=a4)&&(decide (a4<=(a3.length:Int))))) <|
 ((loopM (σ:=(List Yd) × Int) (X:=List Yd) (fun s3 =>
 (if (decide (s3.2<a4)) then
 ((chk (decide (0<=s3.2)&&(decide (s3.2<a4))) <|
 chk (decide (0<=s3.2)&&decide (s3.2<a3.length)) <|
 chk (decide (0<=s3.2)&&decide (s3.2<a3.length)) <|
 chk ((decide (0<=(i64 ((a3.getD (Int.toNat s3.2) 0)-(1:Int)))))&&(decide ((i64 ((a3.getD (Int.toNat s3.2) 0)-(1:Int)))<a2.length))) <|
 chk (decide (0<=s3.2)&&decide (s3.2<a3.length)) <|
 chk true <|
 (chk (decide (0<=s3.2)&&decide (s3.2<a3.length)) <|
 (loopM (σ:=(List Yd) × (List Yd) × Int) (X:=List Yd) (fun s4 =>
 (chk (decide (0<=s3.2)&&decide (s3.2<a3.length)) <|
 if (decide (s4.2.2<(((a2.getD (Int.toNat (i64 ((a3.getD (Int.toNat s3.2) 0)-(1:Int)))) (0,(0,([],([],(0,(0,false))))))).2.2.2.1.length:Nat):Int))) then
 ((chk (decide (0<=s4.2.2)&&decide (s4.2.2<s4.2.1.length)) <|
 let v5:B8 × B8:=(s4.2.1.getD (Int.toNat s4.2.2) ([],[]))
 let v6:List Yd:=(mset s4.1 v5.1 v5.2)
 some v6:Option (List Yd)).bind fun s7 =>
 some (.inl (s7,s4.2.1,i64 (s4.2.2+1))))
 else
 some (.inr s4.1))) (s3.1,(a2.getD (Int.toNat (i64 ((a3.getD (Int.toNat s3.2) 0)-(1:Int)))) (0,(0,([],([],(0,(0,false))))))).2.2.2.1,(0:Int))).bind fun x8 =>
 some x8:Option (List Yd)).bind fun s9 =>
 some s9:Option (List Yd)).bind fun s10 =>
 some (.inl (s10,i64 (s3.2+1))))
 else
 some (.inr s3.1))) (([]:List Yd),(0:Int))).bind fun x11 =>
 some x11:Option (List Yd)).bind fun s12 =>
 (impl_cellsOf s12).bind fun r13 =>
 some (r13,true)
noncomputable def impl_MapOf(a0:Int)(a1:List Yb)(a2:List Ya)(a3:List (Int)):Option ((List Yd) × Bool) :=
 (impl_isStore a0 a1 a2 a3).bind fun r0 =>
 if (!r0) then
 (some (([]:List Yd),false))
 else
 ((loopM (σ:=(List Yd) × Int) (X:=List Yd) (fun s1 =>
 (if (decide (s1.2<a1.length)) then
 ((chk (decide (0<=s1.2)&&decide (s1.2<a1.length)) <|
 let v2:B8 × B8 × Int × Int × Bool × Int:=(a1.getD (Int.toNat s1.2) ([],([],(0,(0,(false,0))))))
 let v3:Bool:=(if (!decide (v2.2.2.1=(0:Int))) then true else (!decide (v2.2.2.2.1=(0:Int))))
 (if v3 then
 (let v4:List Yd:=((v2.1,v2.2.1)::([]:List Yd))
 let v5:List Yd:=(s1.1++v4)
 chk (decide ((v5.length:Int)<=(4398046511104:Int))) <|
 some v5:Option (List Yd))
 else
 (some s1.1)).bind fun s6 =>
 some s6:Option (List Yd)).bind fun s7 =>
 some (.inl (s7,i64 (s1.2+1))))
 else
 some (.inr s1.1))) (([]:List Yd),(0:Int))).bind fun x8 =>
 some x8:Option (List Yd)).bind fun s9 =>
 some (s9,true)
noncomputable def laws_sameCells(a0:List Yd)(a1:List Yd):Option (Bool) :=
 if (!decide ((a0.length:Int)=(a1.length:Int))) then
 (some false)
 else
 let j0:Unit->Option _:=fun s1 =>
 (some true)
 (loopM (σ:=Int) (X:=Unit ⊕ Bool) (fun s2 =>
 (if (decide (s2<a0.length)) then
 (let j3:Unit->Option _:=fun s4 =>
 (some (.inl (i64 (s2+1))))
 chk (decide (0<=s2)&&decide (s2<a0.length)) <|
 let v5:B8 × B8:=(a0.getD (Int.toNat s2) ([],[]))
 chk (decide (0<=s2)&&decide (s2<a1.length)) <|
 let v6:B8 × B8:=(a1.getD (Int.toNat s2) ([],[]))
 if (!((decide (v5.1=v6.1))&&(decide (v5.2=v6.2)))) then
 (some (.inr (.inr false)))
 else
 j3 ())
 else
 some (.inr (.inl ())))) (0:Int)).bind fun x7 =>
 sumE x7 (fun y8 =>
 j0 ()) (fun z9 =>
 some z9)
noncomputable def laws_FnOcc(a0:List (Int)):Option (Bool) :=
 if (decide ((1048576:Int)<a0.length)) then
 (some true)
 else
 (spec_DrawPlayStore a0).bind fun r0 =>
 (impl_PlayStore r0.1 r0.2).bind fun r1 =>
 (spec_PlayStore r0.1 r0.2).bind fun r2 =>
 (if (!(r1.2.2.2.2.2 != r2.2.2.2.2.2)) then laws_sameInts r1.2.2.2.2.1 r2.2.2.2.2.1 else some false).bind fun r3 =>
 let v4:Bool:=(if (r1.2.2.2.2.2 != r2.2.2.2.2.2) then true else (!r3))
 if v4 then
 (some false)
 else
 if (!r1.2.2.2.2.2) then
 (some (decide ((r1.2.2.2.2.1.length:Int)=(0:Int))))
 else
 (impl_GoodStore r1.1 r1.2.1 r1.2.2.1 r1.2.2.2.1).bind fun r5 =>
 (if (!(!r5)) then spec_GoodStore r1.1 r1.2.1 r1.2.2.1 r1.2.2.2.1 else some false).bind fun r6 =>
 let v7:Bool:=(if (!r5) then true else (!r6))
 if v7 then
 (some false)
 else
 let j8:Bool->Option _:=fun s9 =>
 ((impl_ReplayOrder r1.1 r1.2.1 r1.2.2.1 r1.2.2.2.1 (r1.2.2.2.1.length:Int)).bind fun r10 =>
 (impl_MapOf r1.1 r1.2.1 r1.2.2.1 r1.2.2.2.1).bind fun r11 =>
 let v12:Bool:=(if r10.2 then r11.2 else false)
 (if (v12&&(!(!s9))) then laws_sameCells r10.1 r11.1 else some false).bind fun r13 =>
 let v14:Bool:=(if (!s9) then true else r13)
 let v15:Bool:=(if v12 then v14 else false)
 some v15)
 (loopM (σ:=Bool × Int) (X:=(Bool) ⊕ Bool) (fun s16 =>
 (if (decide (s16.2<r1.2.2.2.1.length)) then
 (let j17:Bool->Option _:=fun s18 =>
 (some (.inl (s18,i64 (s16.2+1))))
 chk (decide (0<=s16.2)&&decide (s16.2<r1.2.2.2.1.length)) <|
 chk ((decide (0<=(i64 ((r1.2.2.2.1.getD (Int.toNat s16.2) 0)-(1:Int)))))&&(decide ((i64 ((r1.2.2.2.1.getD (Int.toNat s16.2) 0)-(1:Int)))<r1.2.2.1.length))) <|
 let v19:Int × Int × (List Yc) × (List Yd) × Int × Int × Bool:=(r1.2.2.1.getD (Int.toNat (i64 ((r1.2.2.2.1.getD (Int.toNat s16.2) 0)-(1:Int)))) (0,(0,([],([],(0,(0,false)))))))
 chk true <|
 chk true <|
 let v20:Bool:=(if s16.1 then (decide (v19.2.1=(4:Int))) else false)
 (impl_ReplayOrder r1.1 r1.2.1 r1.2.2.1 r1.2.2.2.1 s16.2).bind fun r21 =>
 if (!r21.2) then
 (some (.inr (.inr false)))
 else
 let j22:Unit->Option _:=fun s23 =>
 (j17 v20)
 (loopM (σ:=(List Yc) × Int) (X:=Unit ⊕ Bool) (fun s24 =>
 (if (decide (s24.2<v19.2.2.1.length)) then
 (let j25:List Yc->Option _:=fun s26 =>
 (some (.inl (s26,i64 (s24.2+1))))
 chk (decide (0<=s24.2)&&decide (s24.2<s24.1.length)) <|
 let v27:B8 × B8 × Int × Int × Bool:=(s24.1.getD (Int.toNat s24.2) ([],([],(0,(0,false)))))
 ((loopM (σ:=B8 × (List Yc) × Int) (X:=B8 × List Yc) (fun s28 =>
 (if (decide (s28.2.2<r21.1.length)) then
 ((chk (decide (0<=s28.2.2)&&decide (s28.2.2<r21.1.length)) <|
 let v29:B8 × B8:=(r21.1.getD (Int.toNat s28.2.2) ([],[]))
 (if (decide (v29.1=v27.1)) then
 (some (v29.2,s28.2.1):Option (B8 × List Yc))
 else
 (some (s28.1,s28.2.1))).bind fun s30 =>
 some (s30.1,s30.2):Option (B8 × List Yc)).bind fun s31 =>
 some (.inl (s31.1,s31.2,i64 (s28.2.2+1))))
 else
 some (.inr (s28.1,s28.2.1)))) (([]:B8),s24.1,(0:Int))).bind fun x32 =>
 some (x32.1,x32.2):Option (B8 × List Yc)).bind fun s33 =>
 if (!decide (s33.1=v27.2.1)) then
 (some (.inr (.inr false)))
 else
 j25 s33.2)
 else
 some (.inr (.inl ())))) (v19.2.2.1,(0:Int))).bind fun x34 =>
 sumE x34 (fun y35 =>
 j22 ()) (fun z36 =>
 some (.inr (.inr z36))))
 else
 some (.inr (.inl s16.1)))) (true,(0:Int))).bind fun x37 =>
 sumE x37 (fun y38 =>
 j8 y38) (fun z39 =>
 some z39)
theorem zls:∀a b:Tx,Op.bytesLess a b=true↔a<b
 |[],[]=>by simp[Op.bytesLess]
 |[],b::y=>by simp[Op.bytesLess]
 |a::x,[]=>by simp[Op.bytesLess]
 | a :: x, b :: y => by
   rw[zhh,List.cons_lt_cons_iff,zls x y]
   rw[UInt8.lt_iff_toNat_lt]
theorem zl5 (a b:Tx):decide (a<=b) = !Op.bytesLess b a:=by
 rw[Bool.eq_iff_iff]
 simp only[decide_eq_true_eq,Bool.not_eq_true',<- Bool.not_eq_true,zls]
 exact Iff.rfl
def mk (m:List Cl):List Tx:=m.map fun p=>p.1
theorem zcU (k v:Tx):∀m:List Cl,(∀x,x∈mk (mset m k v)↔x=k\/x∈mk m)/\((mk m).Nodup->(mk (mset m k v)).Nodup)
 |[]=>by simp[mset,mk]
 | p :: r => by
   obtain⟨h1,h2⟩:=zcU k v r
   simp only[mset]
   by_cases c:p.1=k
   · rw[if_pos c]
     subst c
     simp only[mk,List.map_cons,List.mem_cons]
     exact⟨fun x=>by constructor<;>intro h<;>simp_all,id⟩
   · rw[if_neg c]
     constructor
     · intro x
       have:=h1 x
       simp only[mk,List.map_cons,List.mem_cons]at this ⊢
       rw[this]
       constructor
       · rintro (h|h|h)
         ·exact .inr (.inl h)
         ·exact .inl h
         ·exact .inr (.inr h)
       · rintro (h|h|h)
         ·exact .inr (.inl h)
         ·exact .inl h
         ·exact .inr (.inr h)
     · intro hn
       have hn':p.1∉mk r/\(mk r).Nodup:=List.nodup_cons.1 hn
       show (p.1::mk (mset r k v)).Nodup
       refine List.nodup_cons.2 ⟨fun hx=>?_,h2 hn'.2⟩
       rcases (h1 _).1 hx with h|h
       ·exact c h
       ·exact hn'.1 h
theorem zgY {V:Type}:∀(m:List (Tx × V)) (k:Tx) (d:V),k∉m.map (fun p=>p.1)->mget m k d=d
 |[],_,_,_=>rfl
 | p :: r, k, d, h => by
   simp only[List.map_cons,List.mem_cons,not_or]at h
   simp only[mget]
   rw[if_neg fun e=>h.1 e.symm]
   exact zgY r k d h.2
theorem zgy:∀{l:List Tx},l.Nodup->nodupB l=true
 |[],_=>rfl
 | x :: r, h => by
   have h':=List.nodup_cons.1 h
   unfold nodupB
   rw[zgy h'.2]
   have:r.contains x=false:=by
    rw[Bool.eq_false_iff];intro hx;exact h'.1 (List.contains_iff_mem.1 hx)
   rw[this];rfl
structure MG (m:List Cl):Prop where
 nd:(mk m).Nodup
 kk:∀k∈mk m,K4 k
theorem MG.len{m:List Cl}(h:MG m):m.length<=4:=zby (key:=fun p:Cl=>p.1) h.nd fun p hp=>h.kk p.1 (List.mem_map_of_mem hp)
theorem MG.nil:MG []:=⟨List.nodup_nil,fun k hk=>by cases hk⟩
theorem MG.set{m:List Cl}(h:MG m){k v:Tx}(hk:K4 k):MG (mset m k v) :=
 ⟨(zcU k v m).2 h.nd,fun x hx=>by
  rcases ((zcU k v m).1 x).1 hx with rfl|hx
  ·exact hk
  ·exact h.kk x hx⟩
theorem MG.ok{m:List Cl}(h:MG m):skeysOk m=true:=by
 unfold skeysOk
 rw[show nodupB (m.map fun p=>p.1)=true from zgy h.nd]
 have h1:=h.len
 have h2:Nat.ble m.length 1000000=true:=Nat.ble_eq_true_of_le (by omega)
 have h3:(m.all fun p=>Nat.ble p.1.length 1000000)=true:=by
  rw[List.all_eq_true]
  intro p hp
  have:=(h.kk p.1 (List.mem_map_of_mem hp)).ky.2
  exact Nat.ble_eq_true_of_le (by omega)
 rw[h2,h3];rfl
theorem zbm (m:List Cl):(skeys m).Perm (mk m):=List.mergeSort_perm _ _
theorem zkt {m:List Cl}(h:(mk m).Nodup):SK (fun x:Tx=>x) (skeys m):=by
 have h1:(skeys m).Pairwise (fun a b=>decide (a<=b)=true):=List.pairwise_mergeSort (le:=fun x y:Tx=>decide (x<=y))
  (fun a b c h1 h2=>by simp only[decide_eq_true_eq]at *;exact List.le_trans h1 h2)
  (fun a b=>by simp only[Bool.or_eq_true,decide_eq_true_eq];exact List.le_total a b) _
 have h2:(skeys m).Nodup:=(zbm m).nodup_iff.2 h
 refine (h1.and h2).imp ?_
 rintro a b ⟨h3,h4⟩
 rw[zl5]at h3
 cases hx:Op.bytesLess a b with
 |true=>rfl
 |false=>exact absurd (zjR a b hx (by simpa using h3)) h4
def cellsM (m:List Cl):List Cl:=(skeys m).map fun k=>(k,mget m k [])
theorem zg3 {m:List Cl}(h:(mk m).Nodup):SK kC (cellsM m):=by
 unfold cellsM SK
 rw[List.pairwise_map]
 exact zkt h
theorem zd3 {m:List Cl}{c:Cl}:c∈cellsM m↔c.1∈mk m/\c.2=mget m c.1 []:=by
 unfold cellsM
 rw[List.mem_map]
 constructor
 · rintro⟨k,hk,rfl⟩
   exact⟨(zbm m).mem_iff.1 hk,rfl⟩
 · rintro⟨h1,h2⟩
   exact⟨c.1,(zbm m).mem_iff.2 h1,by rw[<- h2]⟩
theorem ziz {m:List Cl}(h:MG m):impl_cellsOf m=some (cellsM m):=by
 unfold impl_cellsOf
 have hl:(skeys m).length=m.length:=by rw[(zbm m).length_eq];simp[mk]
 have h4:=h.len
 simp only[maps_Keys_map_stringstring_string_string,slices_Sorted_string,h.ok,zaa,bind_some]
 refine zac (zac (zah (fun k:Nat=>(((skeys m).take k).map fun k=>(k,mget m k []),(k:Int))) (skeys m).length (cellsM m) (by simp) (fun k hk=>?_) (by simp[cellsM])) rfl) rfl
 have k1:(k:Int)<(skeys m).length:=by omega
 have k0:(0:Int)<=(k:Int):=by omega
 have ki:i64 ((k:Int)+1)=((k+1:Nat):Int):=by rw[zae (by omega) (by omega)];rfl
 have e1:(((skeys m).take k).map fun k=>(k,mget m k [])) ++ [((skeys m).getD k [],mget m ((skeys m).getD k []) [])]=(((skeys m).take (k+1)).map fun k=>(k,mget m k [])):=by
  rw[zaq (skeys m) [] hk,List.map_append];rfl
 have e2:(((((skeys m).take (k+1)).map fun k=>(k,mget m k [])).length:Nat):Int)<=4398046511104:=by simp;omega
 simp only[k1,k0,decide_true,Bool.and_self,zaa,if_true,Int.toNat_natCast,ki,e1,zak e2,bind_some]
def lastC (l:List Cl)(k:Tx)(d:Tx):Tx:=l.foldl (fun v c=>if c.1=k then c.2 else v) d
theorem zdv:∀(l:List Cl) (k d:Tx),(∀c∈l,c.1≠k)->lastC l k d=d
 |[],_,_,_=>rfl
 | c :: l, k, d, h => by
   have h1:=h c (List.mem_cons_self ..)
   show lastC l k (if c.1=k then c.2 else d)=d
   rw[if_neg h1]
   exact zdv l k d fun c hc=>h c (List.mem_cons_of_mem _ hc)
theorem zgJ:∀(l:List Cl) (k d:Tx) {c:Cl},SK kC l->c∈l->c.1=k->lastC l k d=c.2
 |[],_,_,_,_,h,_=>by simp at h
 | x :: l, k, d, c, hs, h, hk => by
   have hs':=List.pairwise_cons.1 hs
   show lastC l k (if x.1=k then x.2 else d)=c.2
   rcases List.mem_cons.1 h with rfl|h
   · rw[if_pos hk]
     refine zdv l k _ fun y hy e=>?_
     have:=hs'.1 y hy
     rw[show kC c=kC y from hk.trans e.symm,za1]at this
     cases this
   ·exact zgJ l k _ hs'.2 h hk
theorem zh3 {m:List Cl}(h:MG m)(k:Tx):lastC (cellsM m) k []=mget m k []:=by
 by_cases c:k∈mk m
 ·exact zgJ _ _ _ (zg3 h.nd) ((zd3 (c:=(k,mget m k []))).2 ⟨c,rfl⟩) rfl
 · rw[zgY m k [] c]
   refine zdv _ _ _ fun x hx e=>?_
   exact c (e▸(zd3.1 hx).1)
theorem ziF (l:List Cl)(k d:Tx){i:Nat}(hi:i<l.length):lastC (l.take (i+1)) k d=if (l.getD i C0).1=k then (l.getD i C0).2 else lastC (l.take i) k d:=by
 rw[zaq l C0 hi];unfold lastC;rw[List.foldl_append];rfl
theorem zdq {a b:List Cl}(h:a.length<=1000000):laws_sameCells a b=some (decide (a=b)):=by
 unfold laws_sameCells
 by_cases hl:a.length=b.length
 · rw[zak (show ((a.length:Nat):Int)=(b.length:Int) by omega)]
   simp only[Bool.not_true,Bool.false_eq_true,if_false]
   refine zac (zau (fun k:Nat=>(k:Int)) a.length (fun k=>!decide (a.getD k C0=b.getD k C0)) (.inr false) (.inl ()) rfl (fun k hk=>?_) (by simp)) ?_
   · have k1:(k:Int)<a.length:=by omega
     have k2:(k:Int)<b.length:=by omega
     have k0:(0:Int)<=(k:Int):=by omega
     have ki:i64 ((k:Int)+1)=((k+1:Nat):Int):=by rw[zae (by omega) (by omega)];rfl
     obtain⟨x,hx⟩:∃x,a.getD k C0=x:=⟨_,rfl⟩
     obtain⟨y,hy⟩:∃y,b.getD k C0=y:=⟨_,rfl⟩
     simp only[k1,k2,k0,decide_true,Bool.and_self,zaa,if_true,Int.toNat_natCast,ki,hx,hy]
     have e1:(decide (x.1=y.1)&&decide (x.2=y.2))=decide (x=y):=by
      rw[Bool.eq_iff_iff];simp[Prod.ext_iff]
     rw[e1,zj9]
   · rw[zk5 C0 hl]
     by_cases e:a=b<;>simp[e]
 · rw[zbe (show ¬((a.length:Nat):Int)=(b.length:Int) by omega)]
   rw[zbe fun e=>hl (by rw[e])];rfl
def wv:List Cl->Tx->Option Tx
 |[],_=>none
 |w::W,k=>if w.1=k then some w.2 else wv W k
theorem zjo (w:Cl)(W:List Cl)(k:Tx):wv (w::W) k=if w.1=k then some w.2 else wv W k:=rfl
theorem zfX:∀{W:List Cl} {k:Tx},wv W k=none ↔ ∀w∈W,w.1≠k
 |[],k=>by simp[wv]
 | w :: W, k => by
   unfold wv
   by_cases c:w.1=k
   · rw[if_pos c]
     constructor
     ·intro h;cases h
     ·intro h;exact absurd c (h w (List.mem_cons_self ..))
   · rw[if_neg c,zfX]
     constructor
     · intro h x hx
       rcases List.mem_cons.1 hx with rfl|hx
       ·exact c
       ·exact h x hx
     ·intro h x hx;exact h x (List.mem_cons_of_mem _ hx)
theorem zg9:∀{W:List Cl} {k v:Tx},wv W k=some v->(k,v)∈W
 |[],_,_,h=>by cases h
 | w :: W, k, v, h => by
   unfold wv at h
   by_cases c:w.1=k
   · rw[if_pos c]at h;cases h
     exact List.mem_cons.2 (.inl (by rw[<- c]))
   ·rw[if_neg c]at h;exact List.mem_cons_of_mem _ (zg9 h)
theorem zl9 {W:List Cl}(h:SK kC W){w:Cl}(hw:w∈W):wv W w.1=some w.2:=by
 cases hx:wv W w.1 with
 |none=>exact absurd rfl (zfX.1 hx w hw)
 | some v =>
   have h1:=zg9 hx
   have:=zk3 h h1 hw rfl
   rw[<- this]
def wrO (X:List Tn)(o:Int):List Cl:=wrT (atX X (o-1).toNat)
def vv (X:List Tn):List Int->Tx->Option Tx
 |[],_=>none
 |o::l,k=>(vv X l k).or (wv (wrO X o) k)
theorem zeB (X:List Tn):∀(a b:List Int) (k:Tx),vv X (a++b) k=(vv X b k).or (vv X a k)
 |[],b,k=>by simp[vv]
 | o :: a, b, k => by
   show (vv X (a++b) k).or _=(vv X b k).or ((vv X a k).or _)
   rw[zeB X a b k,Option.or_assoc]
theorem ziV (X:List Tn)(l:List Int)(o:Int)(k:Tx):vv X (l ++ [o]) k=(wv (wrO X o) k).or (vv X l k):=by
 rw[zeB];simp[vv]
theorem zcg {X X':List Tn}{k:Tx}:∀{l:List Int},(∀o∈l,wrO X' o=wrO X o)->vv X' l k=vv X l k
 |[],_=>rfl
 | o :: l, h => by
   unfold vv
   rw[zcg fun o ho=>h o (List.mem_cons_of_mem _ ho),h o (List.mem_cons_self ..)]
theorem zjj {X:List Tn}{k:Tx}:∀{l:List Int},(∀o∈l,wv (wrO X o) k=none)->vv X l k=none
 |[],_=>rfl
 | o :: l, h => by
   unfold vv
   rw[zjj fun o ho=>h o (List.mem_cons_of_mem _ ho),h o (List.mem_cons_self ..)];rfl
theorem zeo {X:List Tn}{k:Tx}{f g:Int->Bool}:∀{l:List Int},(∀o∈l,f o=g o\/wv (wrO X o) k=none)->vv X (l.filter f) k=vv X (l.filter g) k
 |[],_=>rfl
 | o :: l, h => by
   have ih:=zeo (f:=f) (g:=g) fun o ho=>h o (List.mem_cons_of_mem _ ho)
   rw[List.filter_cons,List.filter_cons]
   rcases h o (List.mem_cons_self ..) with h1|h1
   · rw[h1]
     split
     ·unfold vv;rw[ih]
     ·exact ih
   · have e:∀b:Bool,vv X (if b then o::l.filter f else l.filter f) k=vv X (l.filter f) k:=by
      intro b
      cases b
      ·rfl
      ·show (vv X _ k).or _=_;rw[h1];simp
     have e':∀b:Bool,vv X (if b then o::l.filter g else l.filter g) k=vv X (l.filter g) k:=by
      intro b
      cases b
      ·rfl
      ·show (vv X _ k).or _=_;rw[h1];simp
     rw[e,e',ih]
def putW (m:List Cl)(W:List Cl):List Cl:=W.foldl (fun m w=>mset m w.1 w.2) m
def mp (X:List Tn)(l:List Int):List Cl:=l.foldl (fun m o=>putW m (wrO X o)) []
theorem zjN (X:List Tn)(l:List Int)(o:Int):mp X (l ++ [o])=putW (mp X l) (wrO X o):=by unfold mp;rw[List.foldl_append];rfl
theorem zil:∀(W:List Cl) (m:List Cl) (k d:Tx),SK kC W->mget (putW m W) k d=(wv W k).getD (mget m k d)
 |[],_,_,_,_=>rfl
 | w :: W, m, k, d, h => by
   have h':=List.pairwise_cons.1 h
   show mget (putW (mset m w.1 w.2) W) k d=_
   rw[zil W _ k d h'.2,zhJ]
   rw[zjo]
   by_cases c:w.1=k
   · rw[if_pos c,if_pos c]
     have:wv W k=none:=zfX.2 fun x hx e=>by
      have:=h'.1 x hx
      rw[show kC w=kC x from c.trans e.symm,za1]at this;cases this
     rw[this];rfl
   ·rw[if_neg c,if_neg c]
theorem zgL:∀(W:List Cl) (m:List Cl) (x:Tx),x∈mk (putW m W)↔x∈mk m\/wv W x≠none
 |[],m,x=>by simp[putW,wv]
 | w :: W, m, x => by
   show x∈mk (putW (mset m w.1 w.2) W)↔_
   rw[zgL W _ x,(zcU w.1 w.2 m).1 x]
   rw[zjo]
   by_cases c:w.1=x
   ·rw[if_pos c];simp[c]
   · rw[if_neg c]
     constructor
     · rintro ((h|h)|h)
       ·exact absurd h.symm c
       ·exact .inl h
       ·exact .inr h
     · rintro (h|h)
       ·exact .inl (.inr h)
       ·exact .inr h
theorem zje:∀(W:List Cl) {m:List Cl},MG m->(∀w∈W,K4 w.1)->MG (putW m W)
 |[],m,h,_=>h
 |w::W,m,h,hw=>zje W (h.set (hw w (List.mem_cons_self ..))) fun w' hw'=>hw w' (List.mem_cons_of_mem _ hw')
def WO (X:List Tn)(l:List Int):Prop:=∀o∈l,SK kC (wrO X o)/\∀w∈wrO X o,K4 w.1
theorem ze8 {X:List Tn}{l:List Int}(h:WO X l):∀n,n<=l.length->MG (mp X (l.take n))/\(∀k d,mget (mp X (l.take n)) k d=(vv X (l.take n) k).getD d)/\∀k,k∈mk (mp X (l.take n))↔vv X (l.take n) k≠none
 |0,_=>⟨MG.nil,fun k d=>rfl,fun k=>by simp[mp,mk,vv]⟩
 | n + 1, hn => by
   obtain⟨h1,h2,h3⟩:=ze8 h n (by omega)
   have ho:=h _ (zaf (show n<l.length by omega) 0)
   rw[zaq l 0 (by omega),zjN]
   refine⟨zje _ h1 ho.2,fun k d=>?_,fun k=>?_⟩
   · rw[zil _ _ k d ho.1,h2,ziV]
     cases wv (wrO X (l.getD n 0)) k<;>simp
   · rw[zgL,h3,ziV]
     cases wv (wrO X (l.getD n 0)) k<;>simp
def LkOk (R:List Rc)(l:Lk):Prop:=tdLt l.2.2.1 l.2.2.2.1 (recOr R l.1).2.2.1 (recOr R l.1).2.2.2.1\/(l.2.2.1=(recOr R l.1).2.2.1/\l.2.2.2.1=(recOr R l.1).2.2.2.1/\l.2.1=(recOr R l.1).2.1)
def dnB (X:List Tn)(o:Int):Bool:=decide (stT (atX X (o-1).toNat)=4)
def dn (X:List Tn)(O:List Int):List Int:=O.filter (dnB X)
structure QI (R:List Rc)(X:List Tn)(O:List Int):Prop where
 q1:∀k,(recOr R k).2.1=(vv X (dn X O) k).getD []/\((recOr R k).2.2.1=0/\(recOr R k).2.2.2.1=0↔vv X (dn X O) k=none)
 q2:∀t,t<X.length->(stT (atX X t)=1\/stT (atX X t)=2)->∀l∈lkT (atX X t),LkOk R l
 q3:∀i,i<O.length->∀l∈lkT (atX X (O.getD i 0-1).toNat),(vv X (O.take i) l.1).getD []=l.2.1
 q4:O.Pairwise fun a b=>∀k,wv (wrO X a) k≠none->wv (wrO X b) k≠none->stT (atX X (a-1).toNat)=4
theorem QI.nil:QI [] [] [] where
 q1 k:=by
  rw[zcF (S:=[]) List.Pairwise.nil (fun r hr=>by cases hr)]
  exact⟨rfl,fun _=>rfl,fun _=>⟨rfl,rfl⟩⟩
 q2 t ht:=by simp at ht
 q3 i hi:=by simp at hi
 q4:=.nil
theorem zjF {X X':List Tn}{O:List Int}(h:∀o∈O,stT (atX X' (o-1).toNat)=stT (atX X (o-1).toNat)):dn X' O=dn X O:=by
 unfold dn
 refine List.filter_congr fun o ho=>?_
 unfold dnB
 rw[h o ho]
theorem zkB {X:List Tn}{O:List Int}{o:Int}(h:o∈dn X O):o∈O:=(List.mem_filter.1 h).1
theorem zii {l:List Int}{i:Nat}{o:Int}(h:o∈l.take i):o∈l:=List.mem_of_mem_take h
theorem QI.frame{R:List Rc}{X:List Tn}{O:List Int}(q:QI R X O){R':List Rc}{X':List Tn}
 (hr:∀k,(recOr R' k).2.1=(recOr R k).2.1/\(recOr R' k).2.2.1=(recOr R k).2.2.1/\(recOr R' k).2.2.2.1=(recOr R k).2.2.2.1)
 (ho:∀o∈O,wrO X' o=wrO X o/\lkT (atX X' (o-1).toNat)=lkT (atX X (o-1).toNat)/\stT (atX X' (o-1).toNat)=stT (atX X (o-1).toNat))
 (hl:∀t,t<X'.length->(stT (atX X' t)=1\/stT (atX X' t)=2)->∀l∈lkT (atX X' t),LkOk R l):QI R' X' O where
 q1 k:=by
  obtain⟨r1,r2,r3⟩:=hr k
  rw[zjF fun o h=>(ho o h).2.2,zcg fun o h=>(ho o (zkB h)).1,r1,r2,r3]
  exact q.q1 k
 q2 t ht hs l hm:=by
  obtain⟨r1,r2,r3⟩:=hr l.1
  have:=hl t ht hs l hm
  unfold LkOk at this ⊢
  rw[r1,r2,r3];exact this
 q3 i hi l hm:=by
  rw[(ho _ (zaf hi 0)).2.1]at hm
  rw[zcg fun o h=>(ho o (zii h)).1]
  exact q.q3 i hi l hm
 q4:=by
  refine q.q4.imp_of_mem fun {a b} ha hb h k h1 h2=>?_
  rw[(ho a ha).1]at h1
  rw[(ho b hb).1]at h2
  rw[(ho a ha).2.2]
  exact h k h1 h2
theorem QI.set{e:Int}{R:List Rc}{X:List Tn}{O:List Int}(q:QI R X O)(g:GS e R X O){t:Nat}(ht:t<X.length)(h3:stT (atX X t)≠3)(h4:stT (atX X t)≠4){R':List Rc}{T:Tn}
 (hr:∀k,(recOr R' k).2.1=(recOr R k).2.1/\(recOr R' k).2.2.1=(recOr R k).2.2.1/\(recOr R' k).2.2.2.1=(recOr R k).2.2.2.1)
 (hl:(stT T=1\/stT T=2)->∀l∈lkT T,LkOk R l):QI R' (X.set t T) O:=by
 obtain⟨a1,a2⟩:=zcH ht T
 refine q.frame hr (fun o ho=>?_) fun s hs hst l hm=>?_
 · have hn:=g.not ht h3 h4 ho
   unfold wrO
   rw[a2 _ hn]
   exact⟨rfl,rfl,rfl⟩
 · rw[List.length_set]at hs
   by_cases c:s=t
   · subst c
     rw[a1]at hst hm
     exact hl hst l hm
   · rw[a2 s c]at hst hm
     exact q.q2 s hs hst l hm
theorem zfH (R:List Rc):∀k,(recOr R k).2.1=(recOr R k).2.1/\(recOr R k).2.2.1=(recOr R k).2.2.1/\(recOr R k).2.2.2.1=(recOr R k).2.2.2.1:=fun _=>⟨rfl,rfl,rfl⟩
theorem zkE {R:List Rc}(h:SK kR R){id:Int}(hid:id≠0)(k:Tx):(recOr (lvP R id) k).2.1=(recOr R k).2.1/\(recOr (lvP R id) k).2.2.1=(recOr R k).2.2.1/\(recOr (lvP R id) k).2.2.2.1=(recOr R k).2.2.2.1:=by
 rw[zhX h hid]
 unfold lvR
 split<;>exact⟨rfl,rfl,rfl⟩
theorem zlx {R:List Rc}(h:SK kR R)(id:Int)(W:List Cl)(k:Tx):(recOr (lkR id R W) k).2.1=(recOr R k).2.1/\(recOr (lkR id R W) k).2.2.1=(recOr R k).2.2.1/\(recOr (lkR id R W) k).2.2.2.1=(recOr R k).2.2.2.1:=by
 obtain⟨h1,h2⟩:=zed (id:=id) W h k
 by_cases c:∃w∈W,w.1=k
 ·rw[h1 c];exact⟨rfl,rfl,rfl⟩
 ·rw[h2 fun w hw e=>c ⟨w,hw,e⟩];exact⟨rfl,rfl,rfl⟩
theorem zjd {e:Int}{R:List Rc}{X:List Tn}{O:List Int}{t:Nat}(g:GS e R X O){k:Tx}(hk:ownR (recOr R k)=0\/ownR (recOr R k)=(t:Int)+1)(hs:stT (atX X t)≠3){o:Int}(ho:o∈O)(hw:wv (wrO X o) k≠none):stT (atX X (o-1).toNat)=4:=by
 obtain⟨s,h1,h2,h3,h4⟩:=g.mem ho
 rw[h3]
 rcases h4 with h4|h4
 · exfalso
   cases hx:wv (wrO X o) k with
   |none=>exact hw hx
   | some v =>
     have hm:=zg9 hx
     unfold wrO at hm
     rw[h3]at hm
     have:=g.xo s h1 (.inr h4) _ hm
     dsimp only at this
     rcases hk with hk|hk
     ·omega
     · have:s=t:=by omega
       subst this;exact hs h4
 ·exact h4
theorem QI.check{e:Int}{R:List Rc}{X:List Tn}{O:List Int}(h:WB R X)(g:GS e R X O)(q:QI R X O){t:Nat}(ht:t<X.length)(hs:stT (atX X t)=2)
 (hb:∀l∈lkT (atX X t),bdL R ((t:Int)+1) l=false) {T:Tn} (hT:stT T=3) (hl:lkT T=lkT (atX X t)) (hw:wrT T=wrT (atX X t)):QI R (X.set t T) (O ++ [(t:Int)+1]):=by
 obtain⟨a1,a2⟩:=zcH ht T
 have hn:∀o∈O,(o-1).toNat≠t:=fun o ho=>g.not ht (by omega) (by omega) ho
 have ho:∀o∈O,atX (X.set t T) (o-1).toNat=atX X (o-1).toNat:=fun o ho=>a2 _ (hn o ho)
 have hwO:∀o∈O,wrO (X.set t T) o=wrO X o:=fun o h=>by unfold wrO;rw[ho o h]
 have hnew:wrO (X.set t T) ((t:Int)+1)=wrT (atX X t):=by unfold wrO;rw[toN,a1,hw]
 have hdn:dn (X.set t T) (O ++ [(t:Int)+1])=dn X O:=by
  have e1:dn (X.set t T) O=dn X O:=zjF fun o h=>by rw[ho o h]
  unfold dn at e1 ⊢
  rw[List.filter_append,e1]
  have:dnB (X.set t T) ((t:Int)+1)=false:=by unfold dnB;rw[toN,a1,hT];rfl
  simp[this]
 -- looks of the one that is checked
 have hlook : ∀ l ∈ lkT (atX X t), (vv X O l.1).getD [] = l.2.1 := by
  intro l hm
  have h1:=hb l hm
  simp only[bdL,Bool.or_eq_false_iff,Bool.not_eq_false',Bool.and_eq_true,Bool.and_eq_false_iff,decide_eq_true_eq]at h1
  obtain⟨⟨h2,h3⟩,h4⟩:=h1
  have h5:=q.q2 t ht (.inr hs) l hm
  have h6:l.2.1=(recOr R l.1).2.1:=by
   rcases h5 with h5|⟨_,_,h5⟩
   ·unfold tdLt at h5;omega
   ·exact h5
  have h7:vv X (dn X O) l.1=vv X O l.1:=by
   have:vv X (O.filter (dnB X)) l.1=vv X (O.filter fun _=>true) l.1:=zeo fun o hoo=>by
    cases hx:wv (wrO X o) l.1 with
    |none=>exact .inr rfl
    | some v =>
      left
      have:=zjd (t:=t) g (k:=l.1) (h4.imp id id) (by omega) hoo (by rw[hx];simp)
      unfold dnB;rw[this];rfl
   rwa[show (O.filter fun _=>true)=O from List.filter_eq_self.2 (by simp)]at this
  rw[<- h7,<- (q.q1 l.1).1,h6]
 refine⟨fun k=>?_,fun s hs' hst l hm=>?_,fun i hi l hm=>?_,?_⟩
 · rw[hdn,zcg fun o h=>hwO o (zkB h)]
   exact q.q1 k
 · rw[List.length_set]at hs'
   by_cases c:s=t
   ·subst c;rw[a1,hT]at hst;omega
   · rw[a2 s c]at hst hm
     exact q.q2 s hs' hst l hm
 · rw[List.length_append,List.length_singleton]at hi
   by_cases c:i<O.length
   · have e1:(O ++ [(t:Int)+1]).getD i 0=O.getD i 0:=by
      rw[List.getD_eq_getElem?_getD,List.getElem?_append_left c,<- List.getD_eq_getElem?_getD]
     have e2:(O ++ [(t:Int)+1]).take i=O.take i:=List.take_append_of_le_length (by omega)
     rw[e1,ho _ (zaf c 0)]at hm
     rw[e2,zcg fun o h=>hwO o (zii h)]
     exact q.q3 i c l hm
   · have:i=O.length:=by omega
     subst this
     have e1:(O ++ [(t:Int)+1]).getD O.length 0=(t:Int)+1:=by simp[List.getD_eq_getElem?_getD]
     have e2:(O ++ [(t:Int)+1]).take O.length=O:=by simp
     rw[e1,toN,a1,hl]at hm
     rw[e2,zcg fun o h=>hwO o h]
     exact hlook l hm
 · rw[List.pairwise_append]
   refine⟨q.q4.imp_of_mem fun {a b} ha hb' hh k h1 h2=>?_,List.pairwise_singleton ..,fun a ha b hb' k h1 h2=>?_⟩
   · rw[hwO a ha]at h1
     rw[hwO b hb']at h2
     rw[ho a ha];exact hh k h1 h2
   · rw[List.mem_singleton]at hb'
     subst hb'
     rw[hwO a ha]at h1
     rw[hnew]at h2
     rw[ho a ha]
     cases hx:wv (wrT (atX X t)) k with
     |none=>exact absurd hx h2
     | some v =>
       have:=g.xo t ht (.inl hs) _ (zg9 hx)
       exact zjd (t:=t) g (k:=k) (.inr this) (by omega) ha h1
theorem QI.install {e : Int} {R : List Rc} {X : List Tn} {O : List Int} (h : WB R X) (g : GS e R X O) (p : PI' R X O) (q : QI R X O) {t : Nat} (ht : t < X.length) (hs : stT (atX X t) = 3) :
 QI (inR (atX X t) R (wrT (atX X t))) (X.set t (setState (atX X t) 4)) O:=by
 obtain⟨a1,a2⟩:=zcH ht (setState (atX X t) 4)
 have hat:∀s,wrT (atX (X.set t (setState (atX X t) 4)) s)=wrT (atX X s)/\lkT (atX (X.set t (setState (atX X t) 4)) s)=lkT (atX X s)/\(s≠t->stT (atX (X.set t (setState (atX X t) 4)) s)=stT (atX X s)):=by
  intro s
  by_cases c:s=t
  ·subst c;rw[a1];exact⟨rfl,rfl,fun hn=>absurd rfl hn⟩
  ·rw[a2 s c];exact⟨rfl,rfl,fun _=>rfl⟩
 have hwO:∀o,wrO (X.set t (setState (atX X t) 4)) o=wrO X o:=fun o=>(hat _).1
 have hst4:stT (atX (X.set t (setState (atX X t) 4)) t)=4:=by rw[a1]
 have hw:=h.tw t ht
 have hmem:((t:Int)+1)∈O:=(g.oi _).2 ⟨t,ht,rfl,.inl hs⟩
 have hidx:∀o∈O,(o-1).toNat=t->o=(t:Int)+1:=by
  intro o ho e1
  obtain⟨s,h1,h2,h3,_⟩:=g.mem ho
  omega
 -- the record of a key that is written
 have hrec:∀k,(wv (wrT (atX X t)) k=none/\recOr (inR (atX X t) R (wrT (atX X t))) k=recOr R k)\/(∃v,wv (wrT (atX X t)) k=some v/\(recOr (inR (atX X t) R (wrT (atX X t))) k).2.1=v /\
  (recOr (inR (atX X t) R (wrT (atX X t))) k).2.2.1=teT (atX X t)/\(recOr (inR (atX X t) R (wrT (atX X t))) k).2.2.2.1=tnT (atX X t)/\tdLt (recOr R k).2.2.1 (recOr R k).2.2.2.1 (teT (atX X t)) (tnT (atX X t))):=by
  intro k
  obtain⟨h1,h2⟩:=zdk (T:=atX X t) (wrT (atX X t)) h.rk k
  cases hx:wv (wrT (atX X t)) k with
  |none=>exact .inl ⟨rfl,h2 (zfX.1 hx)⟩
  | some v =>
    right
    have hm:=zg9 hx
    obtain⟨w,hw1,hw2,hw3⟩:=h1 ⟨_,hm,rfl⟩
    have hp:=p.p2 t ht hs _ hm
    have e1:w.2=v:=by
     have:=zl9 hw.ws hw1
     rw[hw2,hx]at this
     exact (Option.some.inj this).symm
    exact⟨v,rfl,by rw[hw3];exact e1,by rw[hw3],by rw[hw3],hp⟩
 refine⟨fun k=>?_,fun s hs' hst l hm=>?_,fun i hi l hm=>?_,?_⟩
 · rw[zcg fun o _=>hwO o]
   rcases hrec k with⟨h1,h2⟩|⟨v,h1,h2,h3,h4,h5⟩
   · rw[h2]
     have:vv X (dn (X.set t (setState (atX X t) 4)) O) k=vv X (dn X O) k:=zeo fun o ho=>by
      by_cases c:(o-1).toNat=t
      · right
        unfold wrO;rw[c];exact h1
      · left
        unfold dnB;rw[(hat _).2.2 c]
     rw[this];exact q.q1 k
   · have hv:vv X (dn (X.set t (setState (atX X t) 4)) O) k=some v:=by
      obtain⟨a,b,hab⟩:=List.append_of_mem hmem
      have hq4:=q.q4
      rw[hab]at hq4 ⊢
      have hq5:=(List.pairwise_cons.1 (List.pairwise_append.1 hq4).2.1).1
      unfold dn
      rw[List.filter_append,zeB,List.filter_cons]
      have e1:dnB (X.set t (setState (atX X t) 4)) ((t:Int)+1)=true:=by unfold dnB;rw[toN,hst4];rfl
      rw[e1,if_pos rfl]
      have e2:vv X (b.filter (dnB (X.set t (setState (atX X t) 4)))) k=none:=zjj fun o ho=>by
       have hob:=(List.mem_filter.1 ho).1
       cases hx:wv (wrO X o) k with
       |none=>rfl
       | some v' =>
         have:=hq5 o hob k (by unfold wrO;rw[toN,h1];simp) (by rw[hx];simp)
         rw[toN,hs]at this
         exact absurd this (by decide)
      show ((vv X (b.filter _) k).or (wv (wrO X ((t:Int)+1)) k)).or _=_
      rw[e2]
      unfold wrO
      rw[toN,h1];rfl
     rw[hv,h2,h3,h4]
     refine⟨rfl,fun hz=>?_,fun hz=>by cases hz⟩
     have hr:=(h.rv k).2
     simp only[isTd,Bool.and_eq_true,decide_eq_true_eq]at hr
     unfold tdLt at h5;omega
 · rw[List.length_set]at hs'
   have c:s≠t:=by
    rintro rfl
    rw[hst4]at hst;omega
   rw[(hat s).2.2 c]at hst
   rw[(hat s).2.1]at hm
   have h1:=q.q2 s hs' hst l hm
   rcases hrec l.1 with⟨_,h2⟩|⟨v,_,h2,h3,h4,h5⟩
   · unfold LkOk at h1 ⊢
     rw[h2];exact h1
   · left
     rw[h3,h4]
     rcases h1 with h1|⟨h6,h7,_⟩
     ·exact zfq h1 h5
     ·rw[h6,h7];exact h5
 · rw[(hat _).2.1]at hm
   rw[zcg fun o _=>hwO o]
   exact q.q3 i hi l hm
 · refine q.q4.imp_of_mem fun {a b} ha hb hh k h1 h2=>?_
   rw[hwO]at h1 h2
   have h3:=hh k h1 h2
   by_cases c:(a-1).toNat=t
   ·rw[c,hst4]
   ·rw[(hat _).2.2 c];exact h3
theorem zlA {e:Int}{R:List Rc}{X:List Tn}{O:List Int}{t:Nat}(g:GS e R X O)(q:QI R X O)(ht:t<X.length)(hs:stT (atX X t)=1)(k:Tx):QI R (rdP R X t k).1 O:=by
 unfold rdP
 split
 ·exact q
 split
 ·exact q
 split
 · split
   ·exact q
   · refine q.set g ht (by omega) (by omega) (zfH R) fun _ l hl=>?_
     rcases List.mem_append.1 hl with hl|hl
     ·exact q.q2 t ht (.inl hs) l hl
     · rw[List.mem_singleton]at hl
       subst hl
       exact .inr ⟨rfl,rfl,rfl⟩
 ·exact q
theorem zlB {e:Int}{R:List Rc}{X:List Tn}{O:List Int}(h:WB R X)(g:GS e R X O)(p:PI' R X O)(q:QI R X O)(x:Stp):QI (SD e R X O x).1 (SD e R X O x).2.1 (SD e R X O x).2.2.1:=by
 obtain⟨k,a,y,v⟩:=x
 unfold SD
 dsimp only
 by_cases c1:k=1
 · simp only[c1,if_true]
   by_cases c2:a=0
   · simp only[c2,if_true]
     by_cases c3:X.length=20
     ·simp only[c3,if_true];exact q
     · simp only[c3,if_false]
       refine q.frame (zfH R) (fun o ho=>?_) fun s hs hst l hm=>?_
       · obtain⟨s,h1,h2,h3,h4⟩:=g.mem ho
         have:atX (X ++ [newT ((X.length:Int)+1)]) (o-1).toNat=atX X (o-1).toNat:=zl6 _ (by omega)
         unfold wrO
         rw[this];exact⟨rfl,rfl,rfl⟩
       · by_cases c:s<X.length
         · have:atX (X ++ [newT ((X.length:Int)+1)]) s=atX X s:=zl6 _ c
           rw[this]at hst hm
           exact q.q2 s c hst l hm
         · rw[List.length_append,List.length_singleton]at hs
           have:s=X.length:=by omega
           subst this
           rw[show atX (X ++ [newT ((X.length:Int)+1)]) X.length=_ from zhc X _]at hm
           cases hm
   ·simp only[c2,if_false];exact q
 · simp only[c1,if_false]
   cases hok:okSt X (k,a,y,v) with
   |false=>simp only[Bool.false_eq_true,if_false];exact q
   | true =>
     simp only[if_true]
     have hok':=hok
     simp only[okSt,Bool.and_eq_true,decide_eq_true_eq,Bool.or_eq_true,Bool.not_eq_true',Bool.or_eq_false_iff,decide_eq_false_iff_not]at hok'
     obtain⟨⟨b1,b2⟩,⟨b3,b4⟩,b5,b6,b7⟩:=hok'
     obtain⟨t,rfl⟩:∃t:Nat,a=(t:Int)+1:=⟨(a-1).toNat,by omega⟩
     rw[toN]at b5 ⊢
     have ht:t<X.length:=by omega
     have h26:k=2\/k=3\/k=4\/k=5\/k=6\/k=7:=by omega
     rcases h26 with rfl|rfl|rfl|rfl|rfl|rfl
     ·exact zlA g q ht (zdW.1 b5) y
     · have hs:stT (atX X t)=1:=zdW.2.1 b5
       exact q.set g ht (by omega) (by omega) (zfH R) fun _ l hl=>q.q2 t ht (.inl hs) l hl
     · have hs:stT (atX X t)=1:=zdW.2.2.1 b5
       show QI (lkP R X t ((t:Int)+1)).2.1 (lkP R X t ((t:Int)+1)).1 O
       unfold lkP
       split
       ·exact q
       ·exact q.set g ht (by omega) (by omega) (zlx h.rk _ _) fun _ l hl=>q.q2 t ht (.inl hs) l hl
     · have hs:stT (atX X t)=2:=zdW.2.2.2.1 b5
       show QI (ckP e R X O t ((t:Int)+1)).1 (ckP e R X O t ((t:Int)+1)).2.1 (ckP e R X O t ((t:Int)+1)).2.2.1
       unfold ckP
       split
       · refine q.set g ht (by omega) (by omega) (zkE h.rk (by omega)) fun hst l hl=>?_
         rcases hst with hst|hst<;>exact absurd (show (5:Int)=_ from hst) (by decide)
       · rename_i hany
         split
         ·exact q
         · refine q.check h g ht hs (fun l hl=>?_) rfl rfl rfl
           obtain⟨i,h1,h2⟩:=List.mem_iff_getElem.1 hl
           have hany':=zal.1 (by simpa using hany:(List.range (X.getD t T0).2.2.1.length).any (fun i=>bdL R ((t:Int)+1) ((X.getD t T0).2.2.1.getD i L0))=false) i h1
           rw[gd h1 L0,h2]at hany'
           exact hany'
     · have hs:stT (atX X t)=3:=zdW.2.2.2.2.1 b5
       exact q.install h g p ht hs
     · have hs:stT (atX X t)=1\/stT (atX X t)=2:=zdW.2.2.2.2.2 b5
       refine q.set g ht (by omega) (by omega) (zkE h.rk (by omega)) fun hst l hl=>?_
       rcases hst with hst|hst<;>exact absurd (show (5:Int)=_ from hst) (by decide)
theorem zjw {e:Int}(he:1<=e/\e<=1000){l:List Stp}(hl:SXL l):∀k,k<=l.length->QI (plS e (l.take k)).1 (plS e (l.take k)).2.1 (plS e (l.take k)).2.2
 |0,_=>by rw[List.take_zero];exact QI.nil
 | k + 1, hk => by
   have ih:=zjw he hl k (by omega)
   obtain⟨g,p⟩:=zco he hl k (by omega)
   rw[zel e l (by omega)]
   exact zlB g.wb g.gs p ih _
theorem zkl {e:Int}{R:List Rc}{X:List Tn}{O:List Int}(h:WB R X)(g:GS e R X O):WO X O:=by
 intro o ho
 obtain⟨s,h1,h2,h3,_⟩:=g.mem ho
 unfold wrO
 rw[h3]
 have hw:=h.tw s h1
 exact⟨hw.ws,fun w hw'=>(hw.wg w hw').1⟩
theorem zcs {e:Int}{R:List Rc}{X:List Tn}{O:List Int}(h:WB R X)(g:GS e R X O){n:Nat}(hn:n<=O.length):impl_ReplayOrder e R X O (n:Int)=some (cellsM (mp X (O.take n)),true):=by
 have hO:O.length<=20:=g.oin h.xl
 have hX:=h.xl
 obtain⟨b,k1,_,k3⟩:=zhI (e:=e) h (O:=O) (by omega)
 rw[k3.2 g]at k1
 obtain⟨m1,_,_⟩:=ze8 (zkl h g) n hn
 unfold impl_ReplayOrder
 rw[k1]
 simp -zeta only [bind_some,zaH,Bool.not_true,Bool.not_false,if_true,Bool.false_eq_true,if_false]
 rw[zak (show (0:Int)<=(n:Int) by omega),zak (show (n:Int)<=((O.length:Nat):Int) by omega)]
 simp only[Bool.and_self,Bool.not_true,Bool.false_eq_true,if_false,zak (show (0:Int)<=0 by omega),zaa]
 refine zac (zac (zah (fun k:Nat=>(mp X (O.take k),(k:Int))) n (mp X (O.take n)) rfl (fun i hi=>?_) (by simp)) rfl) (by rw[ziz m1];rfl)
 have i1:(i:Int)<(n:Int):=by omega
 have i2:(i:Int)<O.length:=by omega
 have i0:(0:Int)<=(i:Int):=by omega
 have ii:i64 ((i:Int)+1)=((i+1:Nat):Int):=by rw[zae (by omega) (by omega)];rfl
 obtain⟨s,h1,h2,h3,_⟩:=g.mem (zaf (show i<O.length by omega) 0)
 obtain⟨A,hA⟩:∃A,X.getD s T0=A:=⟨_,rfl⟩
 have hA':X.getD s (0,(0,([],([],(0,(0,false))))))=A:=hA
 have hfew:A.2.2.2.1.length<=4:=by have:=(h.tw s h1).few.2;rw[show atX X s=A from hA]at this;exact this
 have s1:decide ((s:Int)<((X.length:Nat):Int))=true:=zak (by omega)
 have s0:decide ((0:Int)<=(s:Int))=true:=zak (by omega)
 have si:i64 ((s:Int)+1-1)=(s:Int):=by rw[zae (by omega) (by omega)];omega
 simp only[i1,i2,i0,decide_true,Bool.and_self,zaa,if_true,Int.toNat_natCast,ii,h2,si,s1,s0,hA']
 have hmp:mp X (O.take (i+1))=putW (mp X (O.take i)) A.2.2.2.1:=by
  rw[zaq O 0 (by omega),zjN]
  unfold wrO
  rw[h3,<- hA]
 rw[hmp]
 refine zac (a:=putW (mp X (O.take i)) A.2.2.2.1) (zac (zac (zah (fun k:Nat=>(putW (mp X (O.take i)) (A.2.2.2.1.take k),A.2.2.2.1,(k:Int))) A.2.2.2.1.length (putW (mp X (O.take i)) A.2.2.2.1) rfl (fun j hj=>?_) (by simp)) rfl) rfl) rfl
 have j1:(j:Int)<A.2.2.2.1.length:=by omega
 have j0:(0:Int)<=(j:Int):=by omega
 have ji:i64 ((j:Int)+1)=((j+1:Nat):Int):=by rw[zae (by omega) (by omega)];rfl
 have e1:putW (mp X (O.take i)) (A.2.2.2.1.take (j+1))=mset (putW (mp X (O.take i)) (A.2.2.2.1.take j)) (A.2.2.2.1.getD j C0).1 (A.2.2.2.1.getD j C0).2:=by
  rw[zaq _ C0 hj];unfold putW;rw[List.foldl_append];rfl
 simp only[j1,j0,decide_true,Bool.and_self,zaa,if_true,Int.toNat_natCast,ji,e1,bind_some]
def tdNZ (r:Rc):Bool:=!decide (r.2.2.1=0) || !decide (r.2.2.2.1=0)
def mapR (R:List Rc):List Cl:=(R.filter tdNZ).map fun r=>(r.1,r.2.1)
theorem zki {e:Int}{R:List Rc}{X:List Tn}{O:List Int}(h:WB R X)(g:GS e R X O):impl_MapOf e R X O=some (mapR R,true):=by
 have hO:O.length<=20:=g.oin h.xl
 have hR:R.length<=4:=zby (zcr h.rk) h.kk
 obtain⟨b,k1,_,k3⟩:=zhI (e:=e) h (O:=O) (by omega)
 rw[k3.2 g]at k1
 unfold impl_MapOf
 rw[k1]
 simp -zeta only [bind_some,Bool.not_true,Bool.false_eq_true,if_false]
 refine zac (zac (zah (fun k:Nat=>(mapR (R.take k),(k:Int))) R.length (mapR R) rfl (fun k hk=>?_) (by simp)) rfl) rfl
 have k1:(k:Int)<R.length:=by omega
 have k0:(0:Int)<=(k:Int):=by omega
 have ki:i64 ((k:Int)+1)=((k+1:Nat):Int):=by rw[zae (by omega) (by omega)];rfl
 have hl:(mapR (R.take k)).length<=k:=by
  unfold mapR
  rw[List.length_map]
  refine Nat.le_trans (List.length_filter_le _ _) ?_
  rw[List.length_take];omega
 have e1:mapR (R.take (k+1))=if tdNZ (R.getD k R0)=true then mapR (R.take k) ++ [((R.getD k R0).1,(R.getD k R0).2.1)] else mapR (R.take k):=by
  rw[zaq R R0 hk]
  unfold mapR
  rw[List.filter_append,List.map_append]
  obtain⟨r,hr⟩:∃r,R.getD k R0=r:=⟨_,rfl⟩
  rw[hr,List.filter_cons,List.filter_nil]
  cases tdNZ r with
  |true=>simp only[if_true,List.map_cons,List.map_nil]
  |false=>simp only[Bool.false_eq_true,if_false,List.map_nil,List.append_nil]
 rw[e1]
 obtain⟨r,hr⟩:∃r,R.getD k R0=r:=⟨_,rfl⟩
 have hr':R.getD k ([],([],(0,(0,(false,0)))))=r:=hr
 simp only[k1,k0,decide_true,Bool.and_self,zaa,if_true,Int.toNat_natCast,ki,hr,hr',zdB]
 have e2:(!decide (r.2.2.1=0) || !decide (r.2.2.2.1=0))=tdNZ r:=rfl
 rw[e2]
 cases tdNZ r with
 | true =>
   have:(((mapR (R.take k) ++ [(r.1,r.2.1)]).length:Nat):Int)<=4398046511104:=by rw[List.length_append,List.length_singleton];omega
   simp only[if_true,zak this,zaa,bind_some]
 |false=>simp only[Bool.false_eq_true,if_false,bind_some]
theorem zkG {R:List Rc}(h:SK kR R):SK kC (mapR R):=by
 unfold mapR SK
 rw[List.pairwise_map]
 exact h.filter _
theorem zkX {e:Int}{R:List Rc}{X:List Tn}{O:List Int}(h:WB R X)(g:GS e R X O)(q:QI R X O)(ha:∀o∈O,dnB X o=true):cellsM (mp X O)=mapR R:=by
 obtain⟨m1,m2,m3⟩:=ze8 (zkl h g) O.length (Nat.le_refl _)
 rw[List.take_length]at m1 m2 m3
 have hdn:dn X O=O:=List.filter_eq_self.2 ha
 refine zk6 (zg3 m1.nd) (zkG h.rk) fun c=>?_
 rw[zd3,m2,m3]
 unfold mapR
 rw[List.mem_map]
 have q1:=q.q1 c.1
 rw[hdn]at q1
 constructor
 · rintro⟨h1,h2⟩
   rcases recOr_cases h.rk c.1 with⟨h3,h4,_⟩|⟨_,h3,_⟩
   · refine⟨_,List.mem_filter.2 ⟨h3,?_⟩,?_⟩
     · have:¬((recOr R c.1).2.2.1=0/\(recOr R c.1).2.2.2.1=0):=fun hz=>h1 (q1.2.1 hz)
       unfold tdNZ
       rw[Bool.or_eq_true,Bool.not_eq_true',Bool.not_eq_true',decide_eq_false_iff_not,decide_eq_false_iff_not]
       omega
     · rw[q1.1,<- h2]
       exact Prod.ext (zcW R c.1) rfl
   ·exact absurd (q1.2.1 (by rw[h3];exact⟨rfl,rfl⟩)) h1
 · rintro⟨r,hr,rfl⟩
   obtain⟨h1,h2⟩:=List.mem_filter.1 hr
   have h3:=zcj h.rk h1
   dsimp only at q1 ⊢
   rw[show recOr R r.1=r from h3]at q1
   refine⟨fun hz=>?_,q1.1⟩
   have:=q1.2.2 hz
   unfold tdNZ at h2
   rw[this.1,this.2]at h2
   cases h2
def instB (X:List Tn)(l:List Int):Bool:=l.all (dnB X)
theorem ziN (X:List Tn)(l:List Int){i:Nat}(hi:i<l.length):instB X (l.take (i+1))=(instB X (l.take i)&&dnB X (l.getD i 0)):=by
 rw[zaq l 0 hi];unfold instB;rw[List.all_append];simp
theorem zfO {a:List Int}(ha:Byt a):laws_FnOcc a=some true:=by
 unfold laws_FnOcc
 split
 ·rfl
 obtain⟨⟨e,l⟩,h1,hl⟩:=zdX ha
 rw[h1]
 simp -zeta only [bind_some]
 rw[zdt hl,zd5 hl]
 by_cases c:(1<=e/\e<=1000)/\l.length<=120
 case neg =>
  have e1:plR e l=(0,[],[],[],[],false):=by unfold plR;rw[if_neg c]
  have e2:laws_sameInts [] []=some true:=by rw[zbU (show ([]:List Int).length<=1000000000 by simp)];rfl
  rw[e1]
  simp only[bind_some,bne_self_eq_false,Bool.not_false,if_true,e2];rfl
 obtain⟨gi,p⟩:=zco c.1 hl l.length (Nat.le_refl _)
 have q:=zjw c.1 hl l.length (Nat.le_refl _)
 rw[List.take_length]at gi p q
 have hcl:=zhH e l l.length
 have e1:plR e l=(e,(plS e l).1,(plS e l).2.1,(plS e l).2.2,cdS e l l.length,true):=by unfold plR;rw[if_pos c]
 rw[e1]
 have h:=gi.wb
 have g:=gi.gs
 obtain⟨⟨R,X,O⟩,hS⟩:∃S,plS e l=S:=⟨_,rfl⟩
 rw[hS]at h g p q ⊢
 obtain⟨cd,hcd⟩:∃cd,cdS e l l.length=cd:=⟨_,rfl⟩
 rw[hcd]at hcl ⊢
 clear e1 gi
 dsimp only at h g p q
 have hO:O.length<=20:=g.oin h.xl
 have hX:=h.xl
 obtain⟨b,k1,k2,k3⟩:=zhI (e:=e) h (O:=O) (by omega)
 rw[k3.2 g]at k1 k2
 have k4:impl_GoodStore e R X O=some true:=by unfold impl_GoodStore;rw[k1];rfl
 dsimp only
 simp only[bind_some,bne_self_eq_false,Bool.not_false,if_true,zbU (show cd.length<=1000000000 by omega),decide_true,Bool.not_true,Bool.false_eq_true,if_false,k4,k2]
 refine zac (zah (fun k:Nat=>(instB X (O.take k),(k:Int))) O.length (.inl (instB X O)) rfl (fun i hi=>?_) (by simp)) ?_
 · have i1:(i:Int)<O.length:=by omega
   have i0:(0:Int)<=(i:Int):=by omega
   have ii:i64 ((i:Int)+1)=((i+1:Nat):Int):=by rw[zae (by omega) (by omega)];rfl
   obtain⟨s,h1,h2,h3,_⟩:=g.mem (zaf hi 0)
   have q3:=q.q3 i hi
   rw[h3]at q3
   have hdb:dnB X (O.getD i 0)=decide ((atX X s).2.1=4):=by unfold dnB;rw[h3]
   obtain⟨A,hA⟩:∃A,X.getD s T0=A:=⟨_,rfl⟩
   have hA':X.getD s (0,(0,([],([],(0,(0,false))))))=A:=hA
   rw[show atX X s=A from hA]at q3 hdb
   have hfew:A.2.2.1.length<=4:=by have:=(h.tw s h1).few.1;rw[show atX X s=A from hA]at this;exact this
   have s1:decide ((s:Int)<((X.length:Nat):Int))=true:=zak (by omega)
   have s0:decide ((0:Int)<=(s:Int))=true:=zak (by omega)
   have si:i64 ((s:Int)+1-1)=(s:Int):=by rw[zae (by omega) (by omega)];omega
   obtain⟨m1,m2,_⟩:=ze8 (zkl h g) i (by omega)
   have hcl2:(cellsM (mp X (O.take i))).length<=4:=by
    unfold cellsM
    rw[List.length_map,(zbm _).length_eq]
    have:=m1.len
    unfold mk;rw[List.length_map];exact this
   rw[ziN X O hi,hdb]
   simp only[i1,i0,decide_true,Bool.and_self,zaa,if_true,Int.toNat_natCast,ii,h2,si,s1,s0,hA',zcs h g (show i<=O.length by omega),bind_some,Bool.not_true,Bool.false_eq_true,if_false,zgq]
   refine zac (zah (fun k:Nat=>(A.2.2.1,(k:Int))) A.2.2.1.length (.inl ()) rfl (fun j hj=>?_) (by simp)) rfl
   have j1:(j:Int)<A.2.2.1.length:=by omega
   have j0:(0:Int)<=(j:Int):=by omega
   have ji:i64 ((j:Int)+1)=((j+1:Nat):Int):=by rw[zae (by omega) (by omega)];rfl
   have q4:=q3 _ (zaf hj L0)
   obtain⟨L,hL⟩:∃L,A.2.2.1.getD j L0=L:=⟨_,rfl⟩
   have hL':A.2.2.1.getD j ([],([],(0,(0,false))))=L:=hL
   rw[show (lkT A).getD j L0=L from hL]at q4
   simp only[j1,j0,decide_true,Bool.and_self,zaa,if_true,Int.toNat_natCast,ji,hL']
   refine zac (zac (zah (fun k:Nat=>(lastC ((cellsM (mp X (O.take i))).take k) L.1 [],A.2.2.1,(k:Int))) (cellsM (mp X (O.take i))).length (L.2.1,A.2.2.1) rfl (fun x hx=>?_) ?_) rfl) ?_
   · have x1:(x:Int)<(cellsM (mp X (O.take i))).length:=by omega
     have x0:(0:Int)<=(x:Int):=by omega
     have xi:i64 ((x:Int)+1)=((x+1:Nat):Int):=by rw[zae (by omega) (by omega)];rfl
     simp only[x1,x0,decide_true,Bool.and_self,zaa,if_true,Int.toNat_natCast,xi,ziF _ _ _ hx]
     by_cases cc:((cellsM (mp X (O.take i))).getD x C0).1=L.1
     · have cc':((cellsM (mp X (O.take i))).getD x ([],[])).1=L.1:=cc
       simp only[cc,cc',decide_true,if_true,bind_some]
     · have cc':¬((cellsM (mp X (O.take i))).getD x ([],[])).1=L.1:=cc
       simp only[cc,cc',decide_false,Bool.false_eq_true,if_false,bind_some]
   · rw[List.take_length,zh3 m1,m2,q4]
     simp
   ·simp only[decide_true,Bool.not_true,Bool.false_eq_true,if_false]
 · simp only[zaw]
   have hr:=zcs h g (Nat.le_refl O.length)
   rw[List.take_length]at hr
   rw[hr,zki h g]
   obtain⟨m1,_,_⟩:=ze8 (zkl h g) O.length (Nat.le_refl _)
   rw[List.take_length]at m1
   have hcl2:(cellsM (mp X O)).length<=1000000:=by
    unfold cellsM
    rw[List.length_map,(zbm _).length_eq]
    have:=m1.len
    unfold mk;rw[List.length_map];omega
   simp only[bind_some,if_true,zdq hcl2]
   cases hi:instB X O with
   |false=>rfl
   | true =>
     have ha:∀o∈O,dnB X o=true:=List.all_eq_true.1 hi
     rw[zkX h g q ha]
     simp
end Sh
