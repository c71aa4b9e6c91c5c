import Derived.Test.YthhmbcblhgnelaaGreatDoorGpIns
set_option linter.unusedVariables false
set_option linter.unusedSimpArgs false
namespace Gp
open Go
section
variable {tab:Tab}{w:World}{C:Ctx}{P:Program}
theorem zch (hT:TabOk P tab){dT sT et:TypeId}{te:TI}(hu:P.underlying dT=some (.slice et))(hte:tab.get et=some te)
 {b o dLen b2 o2 sLen m:Nat} {us:Nat->Value} (hm:m=Nat.min sLen dLen)
 (hsrc:∀q,q<m*te.size->cellAt w b2 (o2+q)=some (us q)) (h1:∀q,q<m*te.size->(us q).oneCell'=true)
 (hd:∀x,x<m*te.size->∃v,cellAt w b (o+x)=some v/\frozenAt w b (o+x)=false) :
 ∃ w', (∀ ty dCap sCap, (Builtin.copy_ #[dT, sT] ty #[.slice (some ⟨b, o, none⟩) dLen dCap, .slice (some ⟨b2, o2, none⟩) sLen sCap]).run P w = .ok (goInt m) w') /\
   Turned (Rng b o (m*te.size)) w w'/\(∀q,q<m*te.size->cellAt w' b (o+q)=some (us q)) /\
   (∀b' o',¬(b'=b/\o<=o'/\o'<o+m*te.size)->cellAt w' b' o'=cellAt w b' o')/\(∀b' o',frozenAt w' b' o'=frozenAt w b' o')/\w'.heap.size=w.heap.size:=by
 have hz:=zas (P:=P) (w:=w) hT hte
 let vs:List Value:=(List.range (m*te.size)).map us
 have hlen:vs.length=m*te.size:=by simp[vs]
 have hget:∀q,q<m*te.size->vs[q]? = some (us q):=fun q hq=>by simp[vs,hq]
 have hone:∀v∈vs,v.oneCell'=true:=by
  intro v hv
  obtain⟨q,hq,rfl⟩:=List.mem_map.1 hv
  exact h1 q (List.mem_range.1 hq)
 obtain⟨w',s1,s2,s3,s4,s5,s6⟩:=zay (P:=P) (b:=b) (o:=o) vs 0 w hone (fun x hx=>by rw[Nat.add_zero];exact hd x (by omega))
 rw[Nat.add_zero,hlen]at s2 s4
 refine⟨w',fun ty dCap sCap=>?_,s2,fun q hq=>?_,s4,s5,s6⟩
 · have hf:∀cap,(Builtin.firstCells te.size m (.slice (some ⟨b2,o2,none⟩) sLen cap)).run P w = .ok vs.toArray w:=fun cap=>za9 hsrc
   have hun:(underlying dT).run P w = .ok (.slice et) w:=by simp only[underlying,Sem.run_bind,run_program,Result.andThen_ok,hu,Sem.run_pure]
   simp only[Builtin.copy_,List.getElem?_toArray,List.getElem?_cons_zero,List.getElem?_cons_succ,Sem.run_bind,hun,Result.andThen_ok,Builtin.lenOf,Sem.run_pure,hz,<- hm,hf,s1]
 · have:=s3 q (us q) (hget q hq)
   rwa[Nat.add_zero]at this
theorem DRel.ofCells{et:TypeId}{te:TI}(hte:tab.get et=some te)(hsz:te.size=te.cks.length){b off n c:Nat}{rows:List T}{us:Nat->Nat->Value}(hn:rows.length=n)(hc:n<=c)(hwf:WfRows te.size rows)
 (hcell:∀i j,i<n->j<te.size->cellAt w b (off+i*te.size+j)=some (us i j))
 (hrel:∀i j ck,i<n->te.cks[j]? = some ck->DRel tab w true ck (us i j) (cellT te.size rows i j) Emp)
 (hown:∀x,x<c*te.size->∃v,cellAt w b (off+x)=some v/\frozenAt w b (off+x)=false) :
 DRel tab w true (.sl et) (.slice (some ⟨b,off,none⟩) n c) (.list rows) (rowF b off c n te.size fun _ _=>Emp) :=
 .sl (Fs:=fun _ _=>Emp) hte hsz hn hc (.inl rfl) hwf hcell hrel (fun _=>hown) (fun _ _ _ _ _ _ _ _ _ _ _ _ h=>h.elim) (fun _ _ _ _ _ _ _ _ h=>h.elim) (by simp)
theorem zid {b off m n k:Nat}{b' x:Nat}:rowF b off m n k (fun _ _=>Emp) b' x↔Rng b off (m*k) b' x:=by
 unfold rowF
 constructor
 · rintro (h|⟨_,_,_,_,h⟩)
   ·exact h
   ·exact h.elim
 ·exact .inl
end
end Gp
