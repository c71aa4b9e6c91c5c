import Derived.Test.YthhmbcblhgnelaaGreatDoorGpCtl5
import Derived.Shelf.Strings.SlTrimAscii
import Derived.Shelf.Small.Strs
set_option linter.unusedVariables false
set_option linter.unusedSimpArgs false
namespace Gp
open Go Go.Shelf Go.Proofs
section
variable {tab:Tab}{P:Program}{ρ:Ren}
def trimSig (f:FuncId):Sig :=
 { f,ins:=[.one (.str (.var 0)),.one (.str (.var 1))],obs:=[],nin:=2,outs:=[.one (.str (.var 0))],oobs:=[],nout:=1 }
def trimP:PI :=
 .seq (.sis [([],.chk (.un .ascii (.var 1))),([],.chk (.bin (.cmp .leq) (.un .slen (.var 0)) (.int 1000)))]) (.ret [.bin .trim (.var 0) (.var 1)])
theorem zkb {J:Nat->List T->List T->Prop}{ρ ρ':Env}{ex:Ex}(h:BigC J trimP ρ ex ρ') :
 den ρ (.un .ascii (.var 1)) = .bool true/\den ρ (.bin (.cmp .leq) (.un .slen (.var 0)) (.int 1000)) = .bool true/\ex = .ret [den ρ (.bin .trim (.var 0) (.var 1))]:=by
 have chk:∀{e:Exp} {l:List (Grd × SI)} {ρ ρ':Env} {ex:Ex},BigC J (.sis (([],.chk e)::l)) ρ ex ρ'->den ρ e = .bool true/\BigC J (.sis l) ρ ex ρ':=by
  intro e l ρ ρ' ex h
  cases h with
  |off hg _=>exact absurd trivial hg
  |chk _ hd hb=>exact⟨hd,hb⟩
 have fin:∀{ρ ρ':Env} {ex:Ex},BigC J (.sis []) ρ ex ρ'->ex = .normal/\ρ'=ρ:=by
  intro ρ ρ' ex h
  cases h;exact⟨rfl,rfl⟩
 unfold trimP at h
 cases h with
 | seq h1 h2 =>
   obtain⟨c1,h1⟩:=chk h1
   obtain⟨c2,h1⟩:=chk h1
   obtain⟨_,rfl⟩:=fin h1
   cases h2
   exact⟨c1,c2,rfl⟩
 | seqOut h1 hne =>
   obtain⟨c1,h1⟩:=chk h1
   obtain⟨c2,h1⟩:=chk h1
   exact absurd (fin h1).1 hne
def fnOkB (P:Program)(f:FuncId):Bool:=match P.funcs[f]? with
 |some fn=>!(fn.name == "runtime.NumGoroutine") && !fn.body.isNone
 |none=>false
theorem zeN {f:FuncId}(h:fnOkB P f=true):FnOk P f:=by
 unfold fnOkB at h
 split at h
 · rename_i fn hf
   simp only[Bool.and_eq_true,Bool.not_eq_true']at h
   exact⟨fn,hf,h.1,h.2⟩
 ·cases h
theorem zjT (L:Lays.n160 P ρ)(h116:(P.info? (ρ.t 116)).map (fun i=>(i.zero,i.size))=some (some (.agg (Array.replicate 256 (.bool false))),256)){f:FuncId}(hf:ρ.f 160=f)(hok:fnOkB P f=true)
 {sigs:List Sig} {idx:Nat} (hs:sigs[idx]? = some (trimSig f)):Inst P tab sigs idx trimP:=by
 intro ds outs ρ1 hb
 obtain⟨c1,c2,hex⟩:=zkb hb
 refine⟨_,hs,zeN hok,?_⟩
 intro args w C he
 have hA0:=he.arg 0 _ rfl
 have hA1:=he.arg 1 _ rfl
 have hsz:=he.size
 obtain⟨v0,hv0,⟨⟨s,h0,rfl⟩,_⟩⟩:=hA0
 obtain⟨v1,hv1,⟨⟨c,h1,rfl⟩,_⟩⟩:=hA1
 have h0':envOf ds 0 = .str s:=h0
 have h1':envOf ds 1 = .str c:=h1
 have hargs:args = #[.string s,.string c]:=by
  apply Array.ext_getElem?
  intro i
  match i with
  |0=>rw[hv0];rfl
  |1=>rw[hv1];rfl
  |i+2=>rw[Array.getElem?_eq_none (by rw[hsz];show 2<=i+2;omega),Array.getElem?_eq_none (by simp)]
 have k1:T.asciiL c.data.toList=true:=by
  have:T.ascii (envOf ds 1) = .bool true:=c1
  rw[h1']at this
  exact T.bool.inj this
 have k2:(s.size:Int)<=1000:=by
  have:T.cmp .leq (T.slen (envOf ds 0)) (.int 1000) = .bool true:=c2
  rw[h0']at this
  exact of_decide_eq_true (T.bool.inj this)
 simp only[T.asciiL,Bool.and_eq_true,List.all_eq_true]at k1
 have k3:c.data.toList.length<=200:=Nat.le_of_ble_eq_true k1.2.1
 have k4:c.size<=200:=by
  have:c.size=c.data.toList.length:=(Lib.size_eq c)
  omega
 rw[hargs]
 show Calls P f _ _ _
 have hc:=Any.strings_Trim_laid L h116 s c w (by omega) (by omega) (fun j b hb=>by
  have:=k1.2.2 b (List.mem_of_getElem? hb)
  exact Nat.le_of_ble_eq_true this)
 rw[hf]at hc
 refine hc.mono ?_
 rintro e w2 ⟨rfl,hB⟩
 have hout:envOf outs 0 = .str ⟨(Lib.trimS s.data.toList c.data.toList).toArray⟩:=by
  cases hex
  show T.trim (envOf ds 0) (envOf ds 1)=_
  rw[h0',h1'];rfl
 have hn:∀o ob,look o (trimSig f).oobs=some ob->False:=by
  intro o ob ho
  cases ho
 refine⟨_,C,rfl,?_⟩
 exact {
  res:=⟨⟨_,hout,rfl⟩,fun cs=>by simp⟩
  ob:=fun o ob ho=>(hn _ _ ho).elim
  dis:=fun o1 _ ob1 _ h1=>(hn _ _ h1).elim
  own:=fun o ob ho=>(hn _ _ ho).elim
  same:=fun o ho=>⟨rfl,rfl,rfl⟩
  trn:=(Grows.mk hB.size (fun b hb=>hB.block b hb) hB.os hB.tape hB.output).turned _ }
def cmpSig (f:FuncId):Sig :=
 { f,ins:=[.one (.str (.var 0)),.one (.str (.var 1))],obs:=[],nin:=2,outs:=[.one (.int .i64 (.var 0))],oobs:=[],nout:=1 }
def cmpP:PI:=.seq (.sis []) (.ret [.bin .cmp3 (.var 0) (.var 1)])
theorem zkN {J:Nat->List T->List T->Prop}{ρ ρ':Env}{ex:Ex}(h:BigC J cmpP ρ ex ρ'):ex = .ret [den ρ (.bin .cmp3 (.var 0) (.var 1))]:=by
 unfold cmpP at h
 cases h with
 |seq h1 h2=>cases h1;cases h2;rfl
 |seqOut h1 hne=>cases h1;exact absurd rfl hne
theorem zjQ : ∀ a b : List UInt8, T.cmp3L a b = Lib.compareBytes a b
 |[],[]=>rfl
 |[],_::_=>rfl
 |_::_,[]=>rfl
 | a :: l, b :: m => by
   have ih:=zjQ l m
   unfold T.cmp3L at ih ⊢
   simp only[Lib.compareBytes,Op.bytesLess,List.cons.injEq]
   by_cases h1:a<b
   ·simp[h1]
   · by_cases h2:b<a
     · have h3:¬a=b:=fun e=>by subst e;exact h1 h2
       simp[h1,h2,h3]
     · have h3:a=b:=by
        apply UInt8.toNat_inj.1
        have e1:¬a.toNat<b.toNat:=fun h=>h1 (UInt8.lt_iff_toNat_lt.2 h)
        have e2:¬b.toNat<a.toNat:=fun h=>h2 (UInt8.lt_iff_toNat_lt.2 h)
        omega
       subst h3
       simpa[h1]using ih
theorem zkd (L:Lays.n106 P ρ){f:FuncId}(hf:ρ.f 106=f)(hok:fnOkB P f=true)
 {sigs:List Sig} {idx:Nat} (hs:sigs[idx]? = some (cmpSig f)):Inst P tab sigs idx cmpP:=by
 intro ds outs ρ1 hb
 have hex:=zkN hb
 refine⟨_,hs,zeN hok,?_⟩
 intro args w C he
 have hA0:=he.arg 0 _ rfl
 have hA1:=he.arg 1 _ rfl
 have hsz:=he.size
 obtain⟨v0,hv0,⟨⟨s,h0,rfl⟩,_⟩⟩:=hA0
 obtain⟨v1,hv1,⟨⟨c,h1,rfl⟩,_⟩⟩:=hA1
 have h0':envOf ds 0 = .str s:=h0
 have h1':envOf ds 1 = .str c:=h1
 have hargs:args = #[.string s,.string c]:=by
  apply Array.ext_getElem?
  intro i
  match i with
  |0=>rw[hv0];rfl
  |1=>rw[hv1];rfl
  |i+2=>rw[Array.getElem?_eq_none (by rw[hsz];show 2<=i+2;omega),Array.getElem?_eq_none (by simp)]
 rw[hargs]
 show Calls P f _ _ _
 have hc:=Any.strings_Compare L s c w
 rw[hf]at hc
 refine hc.mono ?_
 rintro e w2 ⟨rfl,rfl⟩
 have hout:envOf outs 0 = .int (Lib.compareBytes s.data.toList c.data.toList):=by
  cases hex
  show T.cmp3 (envOf ds 0) (envOf ds 1)=_
  rw[h0',h1']
  show T.int (T.cmp3L s.data.toList c.data.toList)=_
  rw[zjQ]
 have hn:∀o ob,look o (cmpSig f).oobs=some ob->False:=by
  intro o ob ho
  cases ho
 refine⟨_,C,rfl,?_⟩
 exact {
  res:=⟨⟨_,hout,rfl⟩,fun cs=>by simp⟩
  ob:=fun o ob ho=>(hn _ _ ho).elim
  dis:=fun o1 _ ob1 _ h1=>(hn _ _ h1).elim
  own:=fun o ob ho=>(hn _ _ ho).elim
  same:=fun o ho=>⟨rfl,rfl,rfl⟩
  trn:=(Grows.refl w2).turned _ }
end
end Gp
