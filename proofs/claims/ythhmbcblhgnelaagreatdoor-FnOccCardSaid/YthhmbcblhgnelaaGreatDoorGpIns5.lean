import Derived.Test.YthhmbcblhgnelaaGreatDoorGpIns4
set_option linter.unusedVariables false
set_option linter.unusedSimpArgs false
namespace Gp
open Go Go.Shelf
section
variable {tab:Tab}{w:World}{C:Ctx}{P:Program}{ρ:Ren}
def insSig (f:FuncId)(et:TypeId):Sig :=
 { f, ins := [.one (.slw 0 et), .one (.int .i64 (.var 1)), .one (.slw 1 et)], obs := [(0, .row true et (.var 0)), (1, .row true et (.var 2))], nin := 3,
   outs:=[.one (.slw 2 et)],oobs:=[(2,.row true et (.var 0))],nout:=1 }
def insP (lim:Nat):PI :=
 .seq (.sis [([],.chk (.bin (.cmp .leq) (.int 0) (.var 1))),([],.chk (.bin (.cmp .leq) (.var 1) (.un .len (.var 0)))),([],.chk (.bin (.cmp .eql) (.un .len (.var 2)) (.int 1))),([],.chk (.bin (.cmp .leq) (.un .len (.var 0)) (.int lim)))])
  (.ret [.bin .cat (.tri .ext (.var 0) (.int 0) (.var 1)) (.bin .cat (.var 2) (.tri .ext (.var 0) (.var 1) (.un .len (.var 0))))])
theorem zlc {J:Nat->List T->List T->Prop}{lim:Nat}{ρ ρ':Env}{ex:Ex}(h:BigC J (insP lim) ρ ex ρ') :
 den ρ (.bin (.cmp .leq) (.int 0) (.var 1)) = .bool true/\den ρ (.bin (.cmp .leq) (.var 1) (.un .len (.var 0))) = .bool true/\den ρ (.bin (.cmp .eql) (.un .len (.var 2)) (.int 1)) = .bool true /\
  den ρ (.bin (.cmp .leq) (.un .len (.var 0)) (.int lim)) = .bool true/\ex = .ret [den ρ (.bin .cat (.tri .ext (.var 0) (.int 0) (.var 1)) (.bin .cat (.var 2) (.tri .ext (.var 0) (.var 1) (.un .len (.var 0)))))]:=by
 have chk:∀{e:Exp} {l:List (Grd × SI)} {ρ ρ':Env} {ex:Ex},BigC J (.sis (([],.chk e)::l)) ρ ex ρ'->den ρ e = .bool true/\BigC J (.sis l) ρ ex ρ':=by
  intro e l ρ ρ' ex h
  cases h with
  |off hg _=>exact absurd trivial hg
  |chk _ hd hb=>exact⟨hd,hb⟩
 have fin:∀{ρ ρ':Env} {ex:Ex},BigC J (.sis []) ρ ex ρ'->ex = .normal/\ρ'=ρ:=by
  intro ρ ρ' ex h
  cases h;exact⟨rfl,rfl⟩
 unfold insP at h
 cases h with
 | seq h1 h2 =>
   obtain⟨c1,h1⟩:=chk h1
   obtain⟨c2,h1⟩:=chk h1
   obtain⟨c3,h1⟩:=chk h1
   obtain⟨c4,h1⟩:=chk h1
   obtain⟨_,rfl⟩:=fin h1
   cases h2
   exact⟨c1,c2,c3,c4,rfl⟩
 | seqOut h1 hne =>
   obtain⟨c1,h1⟩:=chk h1
   obtain⟨c2,h1⟩:=chk h1
   obtain⟨c3,h1⟩:=chk h1
   obtain⟨c4,h1⟩:=chk h1
   exact absurd (fin h1).1 hne
theorem zkz {ti te:TI}(H:InsT P tab ρ ti te){f:FuncId}{nm:String}(hf:P.funcs[f]? = some { Go.Proofs.Body2.n22 ρ with name:=nm })(hnm:(nm == "runtime.NumGoroutine")=false)
 {sigs:List Sig} {idx:Nat} (hs:sigs[idx]? = some (insSig f (ρ.t 9))) {lim:Nat} (hlim:(lim+1)*te.bytes<=140737488355328):Inst P tab sigs idx (insP lim):=by
 intro ds outs ρ1 hb
 obtain⟨c1,c2,c3,c4,hex⟩:=zlc hb
 refine⟨_,hs,⟨_,hf,hnm,rfl⟩,?_⟩
 intro args w C he
 have hA0:=he.arg 0 _ rfl
 have hA1:=he.arg 1 _ rfl
 have hA2:=he.arg 2 _ rfl
 have hO0:=he.ob 0 _ rfl
 have hO1:=he.ob 1 _ rfl
 have hsz:=he.size
 obtain⟨v0,hv0,⟨⟨_,a0,rfl,ha0⟩,_⟩⟩:=hA0
 obtain⟨v1,hv1,⟨⟨m,hm,rfl⟩,_⟩⟩:=hA1
 obtain⟨v2,hv2,⟨⟨_,a2,rfl,ha2⟩,_⟩⟩:=hA2
 obtain⟨_,rows,hd0,D0⟩:=hO0
 obtain⟨_,rv,hd2,D1⟩:=hO1
 have hr0:=D0.header.1
 have hr1:=D1.header.1
 have hargs:args = #[.slice a0 (C.N 0) (C.K 0),.int .i64 m,.slice a2 (C.N 1) (C.K 1)]:=by
  apply Array.ext_getElem?
  intro i
  match i with
  |0=>rw[hv0];rfl
  |1=>rw[hv1];rfl
  |2=>rw[hv2];rfl
  |i+3=>rw[Array.getElem?_eq_none (by rw[hsz];show 3<=i+3;omega),Array.getElem?_eq_none (by simp)]
 have hd0':den (envOf ds) (.var 0) = .list rows:=hd0
 have hd2':den (envOf ds) (.var 2) = .list rv:=hd2
 have hm':den (envOf ds) (.var 1) = .int m:=hm
 have m0:0<=m:=by simpa[den,B.den,T.cmp,T.cmpI,show envOf ds 1 = .int m from hm]using c1
 have m1:m<=rows.length:=by simpa[den,B.den,U.den,T.cmp,T.cmpI,T.len,show envOf ds 1 = .int m from hm,show envOf ds 0 = .list rows from hd0]using c2
 have m2:rv.length=1:=by
  have:(rv.length:Int)=1:=by simpa[den,B.den,U.den,T.cmp,T.cmpI,T.len,show envOf ds 2 = .list rv from hd2]using c3
  omega
 have m3:rows.length<=lim:=by
  have:(rows.length:Int)<=lim:=by simpa[den,B.den,U.den,T.cmp,T.cmpI,T.len,show envOf ds 0 = .list rows from hd0]using c4
  omega
 obtain⟨i,rfl⟩:∃i:Nat,m=i:=⟨m.toNat,by omega⟩
 have E0:DRel tab w true (.sl (ρ.t 9)) (.slice a0 (C.N 0) (C.K 0)) (.list rows) (C.F 0):=by
  rcases ha0 with h|⟨b,base,h1,h2⟩
  ·rw[h]at D0 ⊢;exact D0.anyAddr
  ·rw[h2,<- h1];exact D0
 have hN1:C.N 1=1:=by omega
 have hK1:=D1.header.2.1
 have E1:DRel tab w true (.sl (ρ.t 9)) (.slice a2 1 (C.K 1)) (.list rv) (C.F 1):=by
  rcases ha2 with h|⟨b,base,h1,h2⟩
  ·omega
  · rw[hN1]at D1
    rw[h2,<- h1];exact D1
 have hdj:Disj (C.F 0) (C.F 1):=he.dis 0 1 _ _ rfl rfl (by omega) rfl
 obtain⟨a',c',w',F',k1,k2,k3,k4⟩:=zjW H hf E0 E1 hdj (show i<=C.N 0 by omega) (by
  have:(C.N 0+1)*te.bytes<=(lim+1)*te.bytes:=Nat.mul_le_mul_right _ (by omega)
  omega)
 rw[hargs,hN1]
 refine k1.mono ?_
 rintro e w2 ⟨rfl,rfl⟩
 have hout:envOf outs 0 = .list (rows.take i++(rv++rows.drop i)):=by
  cases hex
  show den (envOf ds) _=_
  simp only[den,B.den,Tr.den,U.den,show envOf ds 0 = .list rows from hd0,show envOf ds 1 = .int (i:Int) from hm,show envOf ds 2 = .list rv from hd2,T.ext,T.cat,T.len,Int.toNat_natCast,Int.toNat_zero,List.drop_zero,List.take_length]
 have hW:Sub (C.F 0) (WrOf (insSig f (ρ.t 9)).obs C):=fun b x h=>⟨0,_,rfl,rfl,h⟩
 refine⟨_,C.set 2 a' (C.N 0+1) c' F',rfl,?_⟩
 have hh:=k3.header
 exact {
  res:=by
   refine⟨⟨.inr ⟨_,rfl⟩,a',?_,?_⟩,fun cs=>by simp⟩
   ·rw[Ctx.set_self.2.1,Ctx.set_self.2.2.1]
   · rw[Ctx.set_self.2.2.1,Ctx.set_self.1]
     rcases hh.2.2 with h|⟨b,off,h⟩
     ·exact .inl h
     ·exact .inr ⟨b,off,h,h⟩
  ob:=fun o ob ho=>by
   have:o=2/\ob = .row true (ρ.t 9) (.var 0):=by
    simp only[insSig,look]at ho
    split at ho
    · rename_i h2
      exact⟨(Nat.eq_of_beq_eq_true h2).symm,(Option.some.inj ho).symm⟩
    ·cases ho
   obtain⟨rfl,rfl⟩:=this
   refine⟨rfl,_,hout,?_⟩
   rw[Ctx.set_self.1,Ctx.set_self.2.1,Ctx.set_self.2.2.1,Ctx.set_self.2.2.2]
   exact k3
  dis := fun o1 o2 ob1 ob2 h1 h2 hne _ => by
   have:∀o ob,look o (insSig f (ρ.t 9)).oobs=some ob->o=2:=by
    intro o ob ho
    simp only[insSig,look]at ho
    split at ho
    · rename_i h2
      exact (Nat.eq_of_beq_eq_true h2).symm
    ·cases ho
   exact absurd ((this _ _ h1).trans (this _ _ h2).symm) hne
  own := fun o ob ho b x hx => by
   have:o=2:=by
    simp only[insSig,look]at ho
    split at ho
    · rename_i h2
      exact (Nat.eq_of_beq_eq_true h2).symm
    ·cases ho
   subst this
   rw[Ctx.set_self.2.2.2]at hx
   exact (k4 b x hx).imp (hW b x) id
  same:=fun o ho=>by
   have:o≠2:=by
    rintro rfl
    obtain⟨ob,ho⟩:=ho
    simp[insSig,look]at ho
   exact⟨(Ctx.set_ne this).1,(Ctx.set_ne this).2.1,(Ctx.set_ne this).2.2.1⟩
  trn:=k2.sub' hW }
end
end Gp
