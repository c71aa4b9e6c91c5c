import Derived.Test.YthhmbcblhgnelaaGreatDoorGpTrim
import Derived.Shelf.SlIter.Sorted
import Derived.Shelf.SortM.Plain
import Derived.Shelf.SortM.SortNone
set_option linter.unusedVariables false
set_option linter.unusedSimpArgs false
namespace Gp
open Go Go.Shelf Go.Proofs Go.RowKit Go.Maps Go.Sort
section
variable {tab:Tab}{P:Program}{ρ:Ren}
def keysSig (f g:FuncId)(v:CK):Sig :=
 { f,ins:=[.one (.mp 0)],obs:=[(0,.map .str v (.var 0))],nin:=1,outs:=[.one (.fn g [1])],oobs:=[(0,.map .str v (.var 0)),(1,.box true [.mp 0])],nout:=1 }
def keysP:PI:=.seq (.sis []) (.ret [.var 0])
theorem zkj {J:Nat->List T->List T->Prop}{ρ ρ':Env}{ex:Ex}(h:BigC J keysP ρ ex ρ'):ex = .ret [den ρ (.var 0)]:=by
 unfold keysP at h
 cases h with
 |seq h1 h2=>cases h1;cases h2;rfl
 |seqOut h1 hne=>cases h1;exact absurd rfl hne
theorem zj2 (L:SlLaysZ.n7 P ρ){f g:FuncId}{v:CK}(hf:ρ.f 7=f)(hg:ρ.f 10=g)(hok:fnOkB P f=true)
 {sigs:List Sig} {idx:Nat} (hs:sigs[idx]? = some (keysSig f g v)):Inst P tab sigs idx keysP:=by
 intro ds outs ρ1 hb
 have hex:=zkj hb
 refine⟨_,hs,zeN hok,?_⟩
 intro args w C he
 have hA0:=he.arg 0 _ rfl
 have hO0:=he.ob 0 _ rfl
 have hsz:=he.size
 obtain⟨v0,hv0,⟨⟨_,r,hA,rfl⟩,_⟩⟩:=hA0
 obtain⟨_,r',es,cl,ents,hA',hF,hr,hd,hB,hM⟩:=hO0
 rw[hA]at hA';cases hA'
 have hargs:args = #[.map (some r)]:=by
  apply Array.ext_getElem?
  intro i
  match i with
  |0=>rw[hv0];rfl
  |i+1=>rw[Array.getElem?_eq_none (by rw[hsz];show 1<=i+1;omega),Array.getElem?_eq_none (by simp)]
 have hlt:r<w.heap.size:=(Array.getElem?_eq_some_iff.1 hr).1
 have hc:=callsIn_wide.1 (AnyZ.keys_in L Fence.wide 1 trivial rfl (some r) w)
 rw[hf,hg]at hc
 rw[hargs]
 show Calls P f _ _ _
 refine hc.mono ?_
 rintro e w2 ⟨rfl,rfl⟩
 have hout:envOf outs 0 = .list ents:=by
  cases hex
  exact hd
 have key:∀o ob,look o (keysSig f g v).oobs=some ob->(o=0/\ob = .map .str v (.var 0))\/(o=1/\ob = .box true [.mp 0]):=by
  intro o ob ho
  simp only[keysSig,look]at ho
  split at ho
  ·rename_i h2;exact .inl ⟨(Nat.eq_of_beq_eq_true h2).symm,(Option.some.inj ho).symm⟩
  · split at ho
    ·rename_i h2;exact .inr ⟨(Nat.eq_of_beq_eq_true h2).symm,(Option.some.inj ho).symm⟩
    ·cases ho
 let C':=C.set 1 (some ⟨w.heap.size,0,none⟩) 0 0 (Rng w.heap.size 0 1)
 have c0:C'.A 0=C.A 0/\C'.N 0=C.N 0/\C'.K 0=C.K 0/\C'.F 0=C.F 0:=Ctx.set_ne (by omega)
 have c1:C'.A 1=some ⟨w.heap.size,0,none⟩/\C'.F 1=Rng w.heap.size 0 1:=⟨Ctx.set_self.1,Ctx.set_self.2.2.2⟩
 refine⟨_,C',rfl,?_⟩
 exact {
  res:=by
   refine⟨⟨#[.pointer (some ⟨w.heap.size,0,none⟩)],rfl,rfl,fun i o hi=>?_⟩,fun cs=>by simp⟩
   match i with
   | 0 =>
     cases hi
     exact⟨.inr ⟨_,rfl⟩,w.heap.size,0,c1.1,rfl⟩
   |i+1=>cases hi
  ob := fun o ob ho => by
   rcases key o ob ho with⟨rfl,rfl⟩|⟨rfl,rfl⟩
   ·exact⟨rfl,r,es,cl,ents,c0.1.trans hA,c0.2.2.2.trans hF,(Go.heap_alloc_old w _ hlt).trans hr,hout,hB,hM⟩
   · refine⟨rfl,w.heap.size,0,⟨rfl,c1.1⟩,c1.2,fun j l hj=>?_,fun _ x _=>zb3 ..⟩
     match j with
     | 0 =>
       cases hj
       exact⟨.map (some r),by rw[zbj];rfl,.inr ⟨_,rfl⟩,r,c0.1.trans hA,rfl⟩
     |j+1=>cases hj
  dis:=fun o1 o2 ob1 ob2 h1 h2 hne _=>by
   rcases key _ _ h1 with⟨rfl,rfl⟩|⟨rfl,rfl⟩<;>rcases key _ _ h2 with⟨rfl,rfl⟩|⟨rfl,rfl⟩
   ·exact absurd rfl hne
   · rw[c0.2.2.2,hF,c1.2]
     rintro b x hb ⟨rfl,_⟩
     have:w.heap.size=r:=hb
     omega
   · rw[c0.2.2.2,hF,c1.2]
     rintro b x ⟨rfl,_⟩ hb
     have:w.heap.size=r:=hb
     omega
   ·exact absurd rfl hne
  own:=fun o ob ho b x hx=>by
   rcases key _ _ ho with⟨rfl,rfl⟩|⟨rfl,rfl⟩
   · rw[c0.2.2.2]at hx
     exact .inl ⟨0,_,rfl,rfl,hx⟩
   · rw[c1.2]at hx
     exact .inr (by rw[hx.1];exact Nat.le_refl _)
  same:=fun o ho=>by
   have:o≠1:=by
    rintro rfl
    obtain⟨ob,ho⟩:=ho
    simp[keysSig,look]at ho
   exact⟨(Ctx.set_ne this).1,(Ctx.set_ne this).2.1,(Ctx.set_ne this).2.2.1⟩
  trn:=(Grows.push w _).turned _ }
def sortSig (f g:FuncId)(et:TypeId)(v:CK):Sig :=
 { f,ins:=[.one (.fn g [0])],obs:=[(0,.box false [.mp 1]),(1,.map .str v (.var 0))],nin:=1,outs:=[.one (.slw 2 et)],oobs:=[(1,.map .str v (.var 0)),(2,.row true et (.var 1))],nout:=2 }
def sortP:PI:=.seq (.sis [([],.chk (.un .skeysOk (.var 0)))]) (.ret [.var 0,.un .skeys (.var 0)])
theorem zkc {J:Nat->List T->List T->Prop}{ρ ρ':Env}{ex:Ex}(h:BigC J sortP ρ ex ρ') :
 den ρ (.un .skeysOk (.var 0)) = .bool true/\ex = .ret [den ρ (.var 0),den ρ (.un .skeys (.var 0))]:=by
 have chk:∀{e:Exp} {l:List (Grd × SI)} {ρ ρ':Env} {ex:Ex},BigC J (.sis (([],.chk e)::l)) ρ ex ρ'->den ρ e = .bool true/\BigC J (.sis l) ρ ex ρ':=by
  intro e l ρ ρ' ex h
  cases h with
  |off hg _=>exact absurd trivial hg
  |chk _ hd hb=>exact⟨hd,hb⟩
 have fin:∀{ρ ρ':Env} {ex:Ex},BigC J (.sis []) ρ ex ρ'->ex = .normal/\ρ'=ρ:=by
  intro ρ ρ' ex h
  cases h;exact⟨rfl,rfl⟩
 unfold sortP at h
 cases h with
 | seq h1 h2 =>
   obtain⟨c1,h1⟩:=chk h1
   obtain⟨_,rfl⟩:=fin h1
   cases h2
   exact⟨c1,rfl⟩
 | seqOut h1 hne =>
   obtain⟨c1,h1⟩:=chk h1
   exact absurd (fin h1).1 hne
theorem zeA:∀{l:List (List UInt8)},T.nodupB l=true->l.Nodup
 |[],_=>List.nodup_nil
 | x :: r, h => by
   simp only[T.nodupB,Bool.and_eq_true,Bool.not_eq_true']at h
   refine List.nodup_cons.2 ⟨fun hx=>?_,zeA h.2⟩
   have:r.contains x=true:=List.contains_iff_mem.2 hx
   rw[this]at h;cases h.1
theorem zeq {v:CK}:∀{es:List MapEntry} {ents:List T},MapRel .str v es ents->ents.all T.isEnt=true ->
 es.length=ents.length/\(∀x∈es,∃s:ByteArray,x.key = .string s/\s.data.toList.length<=1000000)/\(es.map fun x=>match x.key with|.string s=>s.data.toList|_=>[])=ents.map T.entKey
 |[],[],_,_=>⟨rfl,by simp,rfl⟩
 | e :: es, t :: ts, h, ha => by
   obtain⟨⟨a,b,rfl,⟨s,h1,rfl⟩,h2⟩,h3⟩:=h
   rw[List.all_cons,Bool.and_eq_true]at ha
   obtain⟨i1,i2,i3⟩:=zeq h3 ha.2
   have hs:s.data.toList.length<=1000000:=Nat.le_of_ble_eq_true ha.1
   refine⟨by simp[i1],?_,?_⟩
   · intro x hx
     rcases List.mem_cons.1 hx with rfl|hx
     ·exact⟨s,h1,hs⟩
     ·exact i2 x hx
   ·rw[List.map_cons,List.map_cons,i3,h1];rfl
theorem ziP (hT : TabOk P tab) (L : SlLaysZ.n6 P ρ) {ρ3 : Ren} (L7 : SlLaysZ.n7 P ρ3) {ρ2 : Ren} (L3 : SlLaysM.n6 P ρ2) (h9 : ρ2.f 6 = ρ.f 9) {f g : FuncId} {et : TypeId} {te : TI} {v : CK} (hf : ρ.f 6 = f) (hg : ρ3.f 10 = g) (het : ρ.t 26 = et) (hte : tab.get et = some te) (hd0 : te.td = .str)
 (hok:fnOkB P f=true) (hok9:fnOkB P (ρ.f 9)=true) (hokg:fnOkB P g=true)
 {sigs:List Sig} {idx:Nat} (hs:sigs[idx]? = some (sortSig f g et v)):Inst P tab sigs idx sortP:=by
 have L2:SlLaysZ.n10 P ρ3:={ L7 with }
 intro ds outs ρ1 hb
 obtain⟨c1,hex⟩:=zkc hb
 refine⟨_,hs,zeN hok,?_⟩
 intro args w C he
 have hA0:=he.arg 0 _ rfl
 have hO0:=he.ob 0 _ rfl
 have hO1:=he.ob 1 _ rfl
 have hsz:=he.size
 obtain⟨v0,hv0,⟨⟨vs,rfl,hvs,hcap⟩,_⟩⟩:=hA0
 obtain⟨_,b0,base,hp,hv1⟩:=hcap 0 0 rfl
 obtain⟨_,b1,base1,⟨rfl,hA1⟩,hF0,hcell,_⟩:=hO0
 rw[hA1]at hp;cases hp
 obtain⟨vm,hvm,_,r,hA,rfl⟩:=hcell 0 _ rfl
 obtain⟨_,r',es,cl,ents,hA',hF,hr,hd,hB,hM⟩:=hO1
 rw[hA]at hA';cases hA'
 have hvs':vs = #[.pointer (some ⟨b0,0,none⟩)]:=by
  apply Array.ext_getElem?
  intro i
  match i with
  |0=>rw[hv1];rfl
  |i+1=>rw[Array.getElem?_eq_none (by rw[hvs];show 1<=i+1;omega),Array.getElem?_eq_none (by simp)]
 subst hvs'
 have hargs:args = #[.func (.func g) #[] #[.pointer (some ⟨b0,0,none⟩)]]:=by
  apply Array.ext_getElem?
  intro i
  match i with
  |0=>rw[hv0];rfl
  |i+1=>rw[Array.getElem?_eq_none (by rw[hsz];show 1<=i+1;omega),Array.getElem?_eq_none (by simp)]
 have hlt:r<w.heap.size:=(Array.getElem?_eq_some_iff.1 hr).1
 have hcl:w.cell? ⟨b0,0,none⟩=some (.map (some r)):=hvm
 have hb1:b0<w.heap.size:=by
  cases hx:w.heap[b0]? with
  |none=>rw[World.cell?,hx]at hcl;cases hcl
  |some o=>exact (Array.getElem?_eq_some_iff.1 hx).1
 have hd':envOf ds 0 = .list ents:=hd
 have k1:T.skeysOk (.list ents) = .bool true:=by
  have:T.skeysOk (envOf ds 0) = .bool true:=c1
  rwa[hd']at this
 simp only[T.skeysOk,T.bool.injEq,Bool.and_eq_true]at k1
 obtain⟨k1,k2,k3⟩:=k1
 have k1:=Nat.le_of_ble_eq_true k1
 obtain⟨m1,m2,m3⟩:=zeq hM k2
 have k3:=zeA k3
 have hstr:P.underlying (ρ3.t 26)=some .string:=L2.t26
 have hml:(1000000:Nat)<=maxLen:=by unfold maxLen;omega
 -- the map, as the shelf tells of it
 let R:Value->Option (DataW Unit × List MemPlace):=fun _=>some (.nil,[])
 have hkey:∀x∈es.toList,∃s:ByteArray,x.key = .string s/\Go.keyOf P (ρ3.t 26) x.key=some (.string s.data.toList):=by
  intro x hx
  obtain⟨s,h1,h2⟩:=m2 x hx
  refine⟨s,h1,?_⟩
  have:s.size<=maxLen:=by rw[Lib.size_eq];omega
  rw[h1]
  simp[Go.keyOf,hstr,mapKey,this]
 have hrg:∀x∈es.toList,∃s:ByteArray,x.key = .string s/\Go.WideElems.rd P (ρ3.t 26) R x=some (.string s.data.toList,.nil)/\Go.WideElems.rg P (ρ3.t 26) R x=(.string s.data.toList,.nil):=by
  intro x hx
  obtain⟨s,h1,h2⟩:=hkey x hx
  have:Go.WideElems.rd P (ρ3.t 26) R x=some (.string s.data.toList,.nil):=by simp[Go.WideElems.rd,h2,R]
  exact⟨s,h1,this,Go.WideElems.rg_of this⟩
 have hkn:(es.toList.map (·.key)).Nodup:=by
  rw[<- m3]at k3
  have k4:=List.pairwise_map.1 k3
  refine List.pairwise_map.2 (k4.imp fun {a b} hne e=>hne ?_)
  rw[e]
 have Ft:Go.WideElems.Fit P (ρ3.t 26) R es cl:=⟨by rw[<- Array.length_toList];omega,⟨hB.1,hB.2,hkn⟩,fun x hx=>by
  obtain⟨s,_,h2,_⟩:=hrg x hx
  exact⟨_,h2⟩⟩
 have hown:w.ownsMap P (ρ3.t 26) R r es.size (.map ((es.toList.map (Go.WideElems.rg P (ρ3.t 26) R)).foldr DataW.insert [])):=⟨es,cl,hr,Ft,Nat.le_refl _,rfl⟩
 have hsp:((es.toList.map (Go.WideElems.rg P (ρ3.t 26) R)).foldr DataW.insert []).Perm (es.toList.map (Go.WideElems.rg P (ρ3.t 26) R)):=Go.WideShapes.sorted_perm _
 have hsize:Maps.size (.map ((es.toList.map (Go.WideElems.rg P (ρ3.t 26) R)).foldr DataW.insert []))=ents.length:=by
  show List.length _=_
  rw[hsp.length_eq,List.length_map,m1]
 have hperm:(strKeys (.map ((es.toList.map (Go.WideElems.rg P (ρ3.t 26) R)).foldr DataW.insert []))).Perm (ents.map T.entKey):=by
  show (List.map _ _).Perm _
  refine (hsp.map _).trans ?_
  rw[List.map_map,<- m3]
  refine List.Perm.of_eq (List.map_congr_left fun x hx=>?_)
  obtain⟨s,h1,_,h3⟩:=hrg x hx
  simp only[Function.comp,h3,h1,strOf]
 have hseq:SeqGives Fence.wide 2 P (ρ3.f 10) #[.pointer (some ⟨b0,0,none⟩)] encStr (fun ss=>ss.Perm (strKeys (.map ((es.toList.map (Go.WideElems.rg P (ρ3.t 26) R)).foldr DataW.insert [])))) (Maps.size (.map ((es.toList.map (Go.WideElems.rg P (ρ3.t 26) R)).foldr DataW.insert []))) w :=
  AnyZ.keys_gives L2 Fence.wide _ trivial rfl (by omega) b0 r es.size _ w hb1 hcl hown
 have hsorts:AnyZ.SortsIn P ρ Fence.wide 4:=by
  have a1:=fun blk off cap ss W hH hblk hsz=>(callsIn_wide (n:=4)).2 (AnyM.slices_Sort_string L3 blk off cap ss W hH hblk hsz)
  have a2:=fun p cap W=>(callsIn_wide (n:=4)).2 (AnyM.slices_Sort_string_none L3 p cap W)
  rw[h9]at a1 a2
  exact⟨a1,a2⟩
 have ent:∀{n:FuncId},fnOkB P n=true->∀args w,(callFunc n args).run P w = .ok (.enter n args) w:=by
  intro n hn
  obtain⟨fn,h1,h2,h3⟩:=zeN hn
  cases hbd:fn.body with
  |none=>rw[hbd]at h3;cases h3
  |some c=>exact enters_of h1 h2 hbd
 rw[hg]at hseq
 have hc:=callsIn_wide.1 (AnyZ.sorted_in L Fence.wide 5 trivial trivial trivial trivial rfl (by omega) hsorts (ent hok9) g #[.pointer (some ⟨b0,0,none⟩)] trivial (ent hokg) _ _ (by rw[hsize];omega) (by rw[hsize];omega) w hseq)
 rw[hf]at hc
 rw[hargs]
 show Calls P f _ _ _
 refine hc.mono ?_
 rintro e w2 ⟨v2,ss,rfl,hS,hrow,_,hbel⟩
 have hss:ss.mergeSort (fun x y=>decide (x<=y))=(ents.map T.entKey).mergeSort (fun x y=>decide (x<=y)):=mergeSort_of_perm (hS.trans hperm)
 have hl2:ss.length=ents.length:=by rw[(hS.trans hperm).length_eq,List.length_map]
 have hout0:envOf outs 0 = .list ents:=by cases hex;exact hd
 obtain⟨srt,hsrt⟩:∃srt,(ents.map T.entKey).mergeSort (fun x y=>decide (x<=y))=srt:=⟨_,rfl⟩
 rw[hss,hsrt]at hrow
 have hout1:envOf outs 1 = .list (srt.map fun b=>.str ⟨b.toArray⟩):=by
  cases hex
  show T.skeys (envOf ds 0)=_
  rw[hd']
  simp only[T.skeys,hsrt]
 have hsl:srt.length=ss.length:=by rw[<- hsrt,(List.mergeSort_perm ..).length_eq,List.length_map,hl2]
 -- the new row
 have htc:te.cks = [.str]/\te.size=1:=by
  have h1:=(hT et te hte).cks
  have h2:=(hT et te hte).len
  unfold cksOf at h1
  rw[hd0]at h1
  have h3:te.cks = [.str]:=by simpa using h1
  rw[h3]at h2
  exact⟨h3,h2⟩
 obtain ⟨a', c', F', hv2, hD, hF'⟩ : ∃ (a' : Option Addr) (c' : Nat) (F' : CS), v2 = .slice a' srt.length c' /\ DRel tab w2 true (.sl et) (.slice a' srt.length c') (.list (srt.map fun b => .str ⟨b.toArray⟩)) F' /\ ∀ b x, F' b x -> w.heap.size <= b := by
  rcases hrow.2 with⟨rfl,hz⟩|⟨gb,cap,cur,rfl,hbase,hgb,r1,r2,r3,r4⟩
  · have:srt = []:=List.eq_nil_of_length_eq_zero (by omega)
    subst this
    exact⟨none,0,Emp,rfl,DRel.nil hT hte,fun b x h=>h.elim⟩
  · have hcells:∀x,x<cap->∃u,cellAt w2 gb (0+x)=some u/\frozenAt w2 gb (0+x)=false/\(∀b,srt[x]? = some b->u=encStr b):=by
     intro x hx
     have hx2:x<cur.size:=by omega
     refine⟨cur[x],?_,?_,fun b hb=>?_⟩
     ·simp[cellAt,World.cell?,hgb,hx2]
     ·simp[frozenAt,hgb]
     · have h5:(cur.toList.take (ss.length*1))[x]? = (srt.map encStr)[x]?:=by rw[r4]
       have hlt2:x<srt.length:=(List.getElem?_eq_some_iff.1 hb).1
       rw[List.getElem?_take_of_lt (by omega),List.getElem?_map,hb,Array.getElem?_toList,Array.getElem?_eq_getElem hx2]at h5
       simpa using h5
    refine⟨some ⟨gb,0,none⟩,cap,rowF gb 0 cap srt.length 1 fun _ _=>Emp,by rw[hsl],?_,fun b x h=>?_⟩
    · refine .sl (ti:=te) (b:=gb) (off:=0) (vs:=fun i _=>encStr (srt.getD i [])) (Fs:=fun _ _=>Emp) hte (by rw[htc.1,htc.2];rfl) (by simp) (by omega) (.inl rfl) (fun h=>absurd htc.2 h) ?_ ?_ ?_ ?_ ?_ (by rw[htc.2];rfl)
      · intro i j hi hj
        rw[htc.2]at hj ⊢
        have:j=0:=by omega
        subst this
        obtain⟨u,h1,_,h3⟩:=hcells i (by omega)
        rw[show 0+i*1+0=0+i by omega,h1,h3 _ (List.getElem?_eq_getElem hi)]
        simp[hi]
      · intro i j ck hi hck
        rw[htc.1]at hck
        match j with
        | 0 =>
          cases hck
          rw[htc.2]
          have e1:cellT 1 (srt.map fun b=>T.str ⟨b.toArray⟩) i 0 = .str ⟨(srt.getD i []).toArray⟩:=by
           unfold cellT
           rw[if_pos rfl,List.getD_eq_getElem?_getD,List.getElem?_map,List.getElem?_eq_getElem hi,List.getD_eq_getElem?_getD,List.getElem?_eq_getElem hi];rfl
          rw[e1]
          exact .str
        |j+1=>cases hck
      · intro _ x hx
        rw[htc.2]at hx
        obtain⟨u,h1,h2,_⟩:=hcells x (by omega)
        exact⟨u,h1,h2⟩
      ·intro _ _ _ _ _ _ _ _ _ _ b x h;exact h.elim
      ·intro _ _ _ _ _ b x _ h;exact h
    · rcases h with⟨rfl,_,_⟩|⟨_,_,_,_,h⟩
      ·exact hbase
      ·exact h.elim
 have key:∀o ob,look o (sortSig f g et v).oobs=some ob->(o=1/\ob = .map .str v (.var 0))\/(o=2/\ob = .row true et (.var 1)):=by
  intro o ob ho
  simp only[sortSig,look]at ho
  split at ho
  ·rename_i h2;exact .inl ⟨(Nat.eq_of_beq_eq_true h2).symm,(Option.some.inj ho).symm⟩
  · split at ho
    ·rename_i h2;exact .inr ⟨(Nat.eq_of_beq_eq_true h2).symm,(Option.some.inj ho).symm⟩
    ·cases ho
 let C':=C.set 2 a' srt.length c' F'
 have c0:C'.A 1=C.A 1/\C'.N 1=C.N 1/\C'.K 1=C.K 1/\C'.F 1=C.F 1:=Ctx.set_ne (by omega)
 have hr2:w2.heap[r]? = some (.map es cl):=(hbel.block r hlt).trans hr
 refine⟨_,C',rfl,?_⟩
 exact {
  res:=by
   refine⟨⟨.inr ⟨_,rfl⟩,a',?_,?_⟩,fun cs=>by rw[hv2];simp⟩
   · show v2 = .slice a' (C'.N 2) (C'.K 2)
     rw[Ctx.set_self.2.1,Ctx.set_self.2.2.1];exact hv2
   · show C'.K 2=0\/_
     rw[Ctx.set_self.2.2.1,Ctx.set_self.1]
     rcases hD.header.2.2 with h|⟨b,off,h⟩
     ·exact .inl h
     ·exact .inr ⟨b,off,h,h⟩
  ob := fun o ob ho => by
   rcases key o ob ho with⟨rfl,rfl⟩|⟨rfl,rfl⟩
   ·exact⟨rfl,r,es,cl,ents,c0.1.trans hA,c0.2.2.2.trans hF,hr2,hout0,hB,hM⟩
   · refine⟨rfl,_,hout1,?_⟩
     show DRel tab w2 true (.sl et) (.slice (C'.A 2) (C'.N 2) (C'.K 2)) _ (C'.F 2)
     rw[Ctx.set_self.1,Ctx.set_self.2.1,Ctx.set_self.2.2.1,Ctx.set_self.2.2.2]
     exact hD
  dis:=fun o1 o2 ob1 ob2 h1 h2 hne _=>by
   rcases key _ _ h1 with⟨rfl,rfl⟩|⟨rfl,rfl⟩<;>rcases key _ _ h2 with⟨rfl,rfl⟩|⟨rfl,rfl⟩
   ·exact absurd rfl hne
   · rw[c0.2.2.2,hF]
     intro b x hb hb2
     have e1:b=r:=hb
     have:F' b x:=by rw[show C'.F 2=F' from Ctx.set_self.2.2.2]at hb2;exact hb2
     have:=hF' b x this
     omega
   · rw[c0.2.2.2,hF]
     intro b x hb2 hb
     have e1:b=r:=hb
     have:F' b x:=by rw[show C'.F 2=F' from Ctx.set_self.2.2.2]at hb2;exact hb2
     have:=hF' b x this
     omega
   ·exact absurd rfl hne
  own:=fun o ob ho b x hx=>by
   rcases key _ _ ho with⟨rfl,rfl⟩|⟨rfl,rfl⟩
   · rw[c0.2.2.2]at hx
     exact .inl ⟨1,_,rfl,rfl,hx⟩
   · rw[show C'.F 2=F' from Ctx.set_self.2.2.2]at hx
     exact .inr (hF' b x hx)
  same:=fun o ho=>by
   have:o≠2:=by
    rintro rfl
    obtain⟨ob,ho⟩:=ho
    simp[sortSig,look]at ho
   exact⟨(Ctx.set_ne this).1,(Ctx.set_ne this).2.1,(Ctx.set_ne this).2.2.1⟩
  trn:=(Grows.mk hbel.size (fun b hb=>hbel.block b hb) hbel.os hbel.tape hbel.output).turned _ }
end
end Gp
