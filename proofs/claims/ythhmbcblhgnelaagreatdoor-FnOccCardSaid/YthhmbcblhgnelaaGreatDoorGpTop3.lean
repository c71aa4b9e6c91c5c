import Derived.Test.YthhmbcblhgnelaaGreatDoorGpCtl5
import Derived.ChangeSlices
import Derived.ChangeShapes
set_option linter.unusedVariables false
set_option linter.unusedSimpArgs false
namespace Gp
open Go
inductive WfD(tab:Tab):CK->T->Prop where
 |int {k n}:(Lit.int k n).wf=true->WfD tab (.int k) (.int n)
 |bool {b}:WfD tab .bool (.bool b)
 |str {s:ByteArray}:s.size<=Go.maxLen->WfD tab .str (.str s)
 |sl {et:TypeId} {ti:TI} {rows:List T}:tab.get et=some ti->rows.length<=Go.maxLen->WfRows ti.size rows->(∀i j ck,i<rows.length->ti.cks[j]? = some ck->WfD tab ck (cellT ti.size rows i j))->WfD tab (.sl et) (.list rows)
def fieldsTile(tab:Tab):Nat->List (Nat × TypeId)->Option Nat
 |n,[]=>some n
 | n, (off, t) :: fs => match tab.get t with
   |some ti=>if Nat.beq off n then fieldsTile tab (n+ti.size) fs else none
   |none=>none
def goodT (tab:Tab):Nat->TypeId->Bool
 |0,_=>false
 | n + 1, t => match tab.get t with
   | some ti => match ti.td with
     |.int _|.bool|.str=>true
     |.slice e=>goodT tab n e&&(match tab.get e with|some te=>Nat.blt 0 te.size|none=>false)
     |.struct fs=>fs.all (fun f=>goodT tab n f.2)&&fieldsTile tab 0 fs==some ti.size
     |_=>false
   |none=>false
section
variable {H:Type}{enc:TypeId × Value->H}{P:Program}{tab:Tab}{w:World}{base:Nat}{spare:Nat->Bool}{held:Bool}
theorem zc5 (hT:TabOk P tab){t:TypeId}{ti:TI}(h:tab.get t=some ti):P.cellsOf t=ti.size:=by
 obtain⟨i,z,h1,h2,_⟩:=(hT t ti h).inf
 simp[Program.cellsOf,h1,h2]
theorem zgt:∀{fs:List (Nat × TypeId)} {n m:Nat},fieldsTile tab n fs=some m->n<=m/\∀j,n<=j->j<m->∃(i:Nat) (off:Nat) (t:TypeId) (ti:TI),fs[i]? = some (off,t)/\tab.get t=some ti/\off<=j/\j<off+ti.size
 |[],n,m,h=>by cases h;exact⟨Nat.le_refl _,fun j h1 h2=>by omega⟩
 | (off, t) :: fs, n, m, h => by
   simp only[fieldsTile]at h
   split at h
   case h_2=>cases h
   rename_i ti hti
   split at h
   case isFalse=>cases h
   rename_i he
   have he:=Nat.eq_of_beq_eq_true he
   subst he
   obtain⟨h1,h2⟩:=zgt h
   refine⟨by omega,fun j h3 h4=>?_⟩
   by_cases hlt:j<off+ti.size
   ·exact⟨0,off,t,ti,rfl,hti,h3,hlt⟩
   · obtain⟨i,off',t',ti',q1,q2⟩:=h2 j (by omega) h4
     exact⟨i+1,off',t',ti',by simpa using q1,q2⟩
theorem zjf (hT : TabOk P tab) (hsp : ∀ b, spare b = true) : ∀ (n m : Nat) {t : TypeId} {ti : TI} {cs : List Value} {x : DataW H × List MemPlace}, goodT tab m t = true -> tab.get t = some ti -> DataW.trod enc P w base spare held n t cs = some x ->
 cs.length=ti.size/\∀(j:Nat) ck,ti.cks[j]? = some ck->∃v d F,cs[j]? = some v/\DRel tab w false ck v d F/\WfD tab ck d:=by
 intro n
 induction n with
 |zero=>intro m t ti cs x _ _ h;simp[DataW.trod]at h
 | succ n ih =>
   intro m t ti cs x hg hti h
   cases m with
   |zero=>cases hg
   | succ m =>
     obtain⟨d,hd1,hd2,hd3⟩:=(hT t ti hti).und
     have hck:=(hT t ti hti).cks
     have hlen:=(hT t ti hti).len
     simp only[goodT,hti]at hg
     cases htd:ti.td with
     | int k =>
       rw[htd]at hd2;cases d<;>simp[tdChk]at hd2
       subst hd2
       obtain⟨i,rfl,rfl,hw⟩:=DataW.trod_int hd1 h
       simp only[cksOf,htd,beq_iff_eq]at hck
       rw[hlen,hck]
       refine⟨rfl,fun j ck hj=>?_⟩
       cases j with
       |zero=>simp at hj;subst hj;exact⟨_,_,_,rfl,.int,.int hw⟩
       |succ j=>simp at hj
     | bool =>
       rw[htd]at hd2;cases d<;>simp[tdChk]at hd2
       obtain⟨i,rfl,rfl⟩:=DataW.trod_bool hd1 h
       simp only[cksOf,htd,beq_iff_eq]at hck
       rw[hlen,hck]
       refine⟨rfl,fun j ck hj=>?_⟩
       cases j with
       |zero=>simp at hj;subst hj;exact⟨_,_,_,rfl,.bool,.bool⟩
       |succ j=>simp at hj
     | str =>
       rw[htd]at hd2;cases d<;>simp[tdChk]at hd2
       obtain⟨i,rfl,rfl,hw⟩:=DataW.trod_string hd1 h
       simp only[cksOf,htd,beq_iff_eq]at hck
       rw[hlen,hck]
       refine⟨rfl,fun j ck hj=>?_⟩
       cases j with
       |zero=>simp at hj;subst hj;exact⟨_,_,_,rfl,.str,.str hw⟩
       |succ j=>simp at hj
     | slice e =>
       rw[htd]at hd2 hg;cases d<;>simp[tdChk]at hd2
       subst hd2
       simp only[Bool.and_eq_true]at hg
       obtain⟨hg1,hg2⟩:=hg
       cases hte:tab.get e with
       |none=>rw[hte]at hg2;cases hg2
       | some te =>
         rw[hte]at hg2
         have hk0:0<te.size:=Nat.le_of_ble_eq_true hg2
         have htsz:=(hT e te hte).len
         simp only[cksOf,htd,beq_iff_eq]at hck
         rw[hlen,hck]
         have hce:=zc5 hT hte
         rcases DataW.trod_slice hd1 h with⟨rfl,_⟩|⟨a,len,cap,elems,rest,n',hn,rfl,rfl,hb,hl,hm,hel,hc,hs,hns⟩
         · refine⟨rfl,fun j ck hj=>?_⟩
           cases j with
           |zero=>simp at hj;subst hj;exact⟨_,_,_,rfl,DRel.nil hT hte,.sl hte (by simp[Go.maxLen]) (fun _ i hi=>by simp at hi) fun i j ck hi=>by simp at hi⟩
           |succ j=>simp at hj
         · have hn':n'=n:=by omega
           subst hn'
           refine⟨rfl,fun j ck hj=>?_⟩
           cases j with
           |succ j=>simp at hj
           | zero =>
             simp at hj;subst hj
             -- one element
             have each:∀i,i<len->∃csi xi,w.cells? base (a.add (i*te.size)) te.size=some csi/\DataW.trod enc P w base spare held n' e csi=some xi:=by
              intro i hi
              have:=hc i hi
              rw[hce]at this
              obtain⟨y,hy⟩:∃y,elems[i]? = some y:=⟨_,List.getElem?_eq_getElem (by omega)⟩
              rw[hy]at this
              cases hq:w.cells? base (a.add (i*te.size)) te.size with
              |none=>rw[hq]at this;cases this
              |some csi=>rw[hq]at this;exact⟨csi,y,rfl,this⟩
             have hcell0:∀y,w.cells? base y te.size≠none->w.cell? y≠none:=by
              intro y hy
              cases hq:w.cells? base y te.size with
              |none=>exact absurd hq hy
              | some csi =>
                obtain⟨_,q2,q3⟩:=World.cells?_some hq
                have:=q3 0 hk0
                rw[show y.add 0=y from by simp[Addr.add]]at this
                rw[this,List.getElem?_eq_getElem (by omega)];simp
             have hspot:cap=0\/a.spot=none:=by
              by_cases h0:cap=0
              ·exact .inl h0
              · right
                have hc0:w.cell? a≠none:=by
                 by_cases hl0:0<len
                 · obtain⟨csi,xi,q1,_⟩:=each 0 hl0
                   rw[Nat.zero_mul,show a.add 0=a from by simp[Addr.add]]at q1
                   exact hcell0 a (by rw[q1];simp)
                 · have h00:len=0:=by omega
                   subst h00
                   obtain⟨q1,q2⟩:=hs (hsp _)
                   have:=q2 0 (by omega)
                   rw[hce]at this
                   rw[show (0+0)*te.size=0 by simp,show a.add 0=a from by simp[Addr.add]]at this
                   refine hcell0 a fun hnone=>?_
                   rw[hnone]at this
                   rw[List.getElem?_eq_getElem (by omega)]at this
                   cases this
                cases hq:w.cell? a with
                |none=>exact absurd hq hc0
                |some v=>exact World.cell?_spot hq
             -- the elements' cells and data
             have hdat:∀i j,∃v d F,i<len->j<te.size->cellAt w a.block (a.off+i*te.size+j)=some v/\∀ck,te.cks[j]? = some ck->DRel tab w false ck v d F/\WfD tab ck d:=by
              intro i j
              by_cases hij:i<len/\j<te.size
              · obtain⟨hi,hj⟩:=hij
                obtain⟨csi,xi,q1,q2⟩:=each i hi
                obtain⟨r1,r2⟩:=ih m hg1 hte q2
                obtain⟨ck,hck2⟩:∃ck,te.cks[j]? = some ck:=⟨_,List.getElem?_eq_getElem (by omega)⟩
                obtain⟨v,d,F,s1,s2,s3⟩:=r2 j ck hck2
                obtain⟨_,q4,q5⟩:=World.cells?_some q1
                have hsa:a.spot=none:=by
                 rcases hspot with h0|h0
                 ·omega
                 ·exact h0
                refine⟨v,d,F,fun _ _=>⟨?_,fun ck' hck'=>by rw[hck2]at hck';cases hck';exact⟨s2,s3⟩⟩⟩
                have:=q5 j hj
                rw[s1]at this
                rw[<- this]
                unfold cellAt
                congr 1
                obtain⟨b,off,sp⟩:=a
                simp only at hsa;subst hsa
                unfold Addr.add
                split<;>split<;>simp_all<;>omega
              ·exact⟨undef,.hole,Emp,fun hi hj=>absurd ⟨hi,hj⟩ hij⟩
             let vs:Nat->Nat->Value:=fun i j=>Classical.choose (hdat i j)
             let ds:Nat->Nat->T:=fun i j=>Classical.choose (Classical.choose_spec (hdat i j))
             let Fs:Nat->Nat->CS:=fun i j=>Classical.choose (Classical.choose_spec (Classical.choose_spec (hdat i j)))
             have hall:∀i j,i<len->j<te.size->cellAt w a.block (a.off+i*te.size+j)=some (vs i j)/\∀ck,te.cks[j]? = some ck->DRel tab w false ck (vs i j) (ds i j) (Fs i j)/\WfD tab ck (ds i j) :=
              fun i j=>Classical.choose_spec (Classical.choose_spec (Classical.choose_spec (hdat i j)))
             let rows:List T:=(List.range len).map fun i=>if te.size=1 then ds i 0 else .list ((List.range te.size).map (ds i))
             have hrl:rows.length=len:=by simp[rows]
             have hrow:∀i,i<len->rows.getD i .hole=if te.size=1 then ds i 0 else .list ((List.range te.size).map (ds i)):=by
              intro i hi
              simp[rows,List.getD_eq_getElem?_getD,hi]
             have hct:∀i j,i<len->j<te.size->cellT te.size rows i j=ds i j:=by
              intro i j hi hj
              unfold cellT
              by_cases hk1:te.size=1
              · rw[if_pos hk1,hrow i hi,if_pos hk1]
                have:j=0:=by omega
                rw[this]
              · rw[if_neg hk1,hrow i hi,if_neg hk1]
                simp[T.cell,List.getD_eq_getElem?_getD,hj]
             have hwf:WfRows te.size rows:=by
              intro hk1 i hi
              rw[hrl]at hi
              refine⟨(List.range te.size).map (ds i),?_,by simp⟩
              simp[rows,hi,hk1]
             refine⟨.slice (some a) len cap,.list rows,_,rfl,.sl (b:=a.block) (off:=a.off) (vs:=vs) (Fs:=Fs) hte htsz hrl hl ?_ hwf (fun i j hi hj=>(hall i j hi hj).1) (fun i j ck hi hck2=>?_) (fun hh=>by cases hh) (fun hh=>by cases hh) (fun hh=>by cases hh) rfl,.sl hte (by omega) hwf fun i j ck hi hck2=>?_⟩
             · rcases hspot with h0|h0
               ·exact .inr h0
               · left
                 obtain⟨b,off,sp⟩:=a
                 simp only at h0;subst h0;rfl
             · have hj:=List.getD_some_lt hck2
               rw[<- htsz]at hj
               rw[hct i j hi hj]
               exact ((hall i j hi hj).2 ck hck2).1
             · rw[hrl]at hi
               have hj:=List.getD_some_lt hck2
               rw[<- htsz]at hj
               rw[hct i j hi hj]
               exact ((hall i j hi hj).2 ck hck2).2
     | struct fs =>
       rw[htd]at hd2 hg;cases d<;>simp[tdChk]at hd2
       rename_i gs
       simp only[Bool.and_eq_true,List.all_eq_true,beq_iff_eq]at hg
       obtain⟨hg1,hg2⟩:=hg
       obtain⟨xs,n',hn,rfl,hcl,hxl,hx⟩:=DataW.trod_struct hd1 h
       have hn':n'=n:=by omega
       subst hn'
       rw[zc5 hT hti]at hcl
       refine⟨hcl,fun j ck hj=>?_⟩
       have hjl:=List.getD_some_lt hj
       rw[<- hlen]at hjl
       obtain⟨i,off,t',tj,f1,f2,f3,f4⟩:=(zgt hg2).2 j (Nat.zero_le _) hjl
       simp only[cksOf,htd,List.all_eq_true]at hck
       have hcj:=hck (off,t') (List.mem_of_getElem? f1)
       simp only[f2,Bool.and_eq_true,beq_iff_eq]at hcj
       obtain⟨⟨c1,c2⟩,c3⟩:=hcj
       have c2:=Nat.le_of_ble_eq_true c2
       have hgf:=hg1 (off,t') (List.mem_of_getElem? f1)
       rw[hd2,List.getElem?_map]at f1
       cases hq:gs.toList[i]? with
       |none=>rw[hq]at f1;cases f1
       | some f =>
         rw[hq]at f1
         simp only[Option.map_some,Option.some.injEq,Prod.mk.injEq]at f1
         obtain⟨rfl,rfl⟩:=f1
         have hxf:=hx i f (by simpa using hq)
         rw[zc5 hT f2]at hxf
         obtain⟨y,hy⟩:∃y,xs[i]? = some y:=by
          refine⟨_,List.getElem?_eq_getElem ?_⟩
          have:=List.getD_some_lt hq
          simp at this
          omega
         rw[hy]at hxf
         obtain⟨r1,r2⟩:=ih m hgf f2 hxf
         have hck3:tj.cks[j-f.offset]? = some ck:=by
          rw[<- c1,List.getElem?_take_of_lt (by omega),List.getElem?_drop,show f.offset+(j-f.offset)=j by omega];exact hj
         obtain⟨v,d,F,s1,s2,s3⟩:=r2 _ ck hck3
         refine⟨v,d,F,?_,s2,s3⟩
         rw[List.getElem?_take_of_lt (by omega),List.getElem?_drop,show f.offset+(j-f.offset)=j by omega]at s1
         exact s1
     |array=>rw[htd]at hg;cases hg
     |ptr=>rw[htd]at hg;cases hg
     |mp=>rw[htd]at hg;cases hg
     |other=>rw[htd]at hg;cases hg
end
end Gp
namespace Gp
open Go
structure MK where
 ls:List Leaf
 obs:Obs
 ks:List CK
 deriving Repr
def mkLeaves:List CK->Nat->Nat->MK
 |[],_,_=>⟨[],[],[]⟩
 |.int k::r,v,o=>let m:=mkLeaves r (v+1) o;⟨.int k (.var v)::m.ls,m.obs,.int k::m.ks⟩
 |.bool::r,v,o=>let m:=mkLeaves r (v+1) o;⟨.bool (.var v)::m.ls,m.obs,.bool::m.ks⟩
 |.str::r,v,o=>let m:=mkLeaves r (v+1) o;⟨.str (.var v)::m.ls,m.obs,.str::m.ks⟩
 |.sl et::r,v,o=>let m:=mkLeaves r (v+1) (o+1);⟨.slw o et::m.ls,(o,.row false et (.var v))::m.obs,.sl et::m.ks⟩
 |_::r,v,o=>let m:=mkLeaves r v o;⟨.dead::m.ls,m.obs,m.ks⟩
structure MI where
 ins:List S1
 obs:Obs
 ks:List CK
 deriving Repr
def mkIns:List TI->Nat->Nat->MI
 |[],_,_=>⟨[],[],[]⟩
 | ti :: r, v, o =>
   let m:=mkLeaves ti.cks v o
   let n:=mkIns r (v+m.ks.length) (o+m.obs.length)
   ⟨(if ti.agg then .agg m.ls else .one (m.ls.headD .dead))::n.ins,m.obs++n.obs,m.ks++n.ks⟩
abbrev Spot:=Option Addr × Nat × Nat × CS
def ctxOf (L:List Spot):Ctx:={ A:=fun o=>(L.getD o (none,0,0,Emp)).1,N:=fun o=>(L.getD o (none,0,0,Emp)).2.1,K:=fun o=>(L.getD o (none,0,0,Emp)).2.2.1,F:=fun o=>(L.getD o (none,0,0,Emp)).2.2.2 }
section
variable {P:Program}{tab:Tab}{w:World}
theorem zhP {α:Type}(a b c:List α)(x:α)(d:α):(a++(x::b)++c).getD a.length d=x:=by
 simp[List.getD_eq_getElem?_getD]
theorem zaA : ∀ (cks : List CK) (v o : Nat) (vs : List Value) (ds0 : List T) (L0 : List Spot), ds0.length = v -> L0.length = o -> vs.length = cks.length ->
 (∀(j:Nat) ck,cks[j]? = some ck->∃u d F,vs[j]? = some u/\DRel tab w false ck u d F/\WfD tab ck d) ->
 ∃ (ds : List T) (L : List Spot), ds.length = (mkLeaves cks v o).ks.length /\ L.length = (mkLeaves cks v o).obs.length /\ (mkLeaves cks v o).ls.length = cks.length /\
   (∀(j:Nat) k d,(mkLeaves cks v o).ks[j]? = some k->ds[j]? = some d->WfD tab k d) /\
   (∀q,o<=q->q<o+(mkLeaves cks v o).obs.length->∃ob,look q (mkLeaves cks v o).obs=some ob) /\
   ∀ (dr : List T) (Lr : List Spot) (k : Nat -> Prop), (∀ q, q < o + (mkLeaves cks v o).obs.length -> k q) ->
     (∀(j:Nat) l,(mkLeaves cks v o).ls[j]? = some l->∃u,vs[j]? = some u/\LeafRel tab (ctxOf (L0++L++Lr)) k (envOf (ds0++ds++dr)) l u) /\
     (∀q ob,(q,ob)∈(mkLeaves cks v o).obs->ob.owned=false/\ob.isView=false/\ObRel tab (ctxOf (L0++L++Lr)) k (envOf (ds0++ds++dr)) noGam w q ob)
 |[],v,o,vs,ds0,L0,h1,h2,h3,h4=>⟨[],[],rfl,rfl,rfl,fun j k d hj=>by simp[mkLeaves]at hj,fun q h5 h6=>by simp[mkLeaves]at h6;omega,fun dr Lr k hk=>⟨fun j l hj=>by simp[mkLeaves]at hj,fun q ob hq=>by simp[mkLeaves]at hq⟩⟩
 |ck::r,v,o,[],ds0,L0,h1,h2,h3,h4=>by simp at h3
 | ck :: r, v, o, u :: vs, ds0, L0, h1, h2, h3, h4 => by
   obtain⟨u',d,F,e1,e2,e3⟩:=h4 0 ck rfl
   simp at e1;subst e1
   have h4':∀(j:Nat) ck,r[j]? = some ck->∃u d F,vs[j]? = some u/\DRel tab w false ck u d F/\WfD tab ck d:=fun j ck hj=>by
    obtain⟨u,d,F,q1,q2⟩:=h4 (j+1) ck (by simpa using hj)
    exact⟨u,d,F,by simpa using q1,q2⟩
   have h3':vs.length=r.length:=by simpa using h3
   have henv:∀(ds dr:List T) (d:T),envOf (ds0++(d::ds)++dr) v=d:=fun ds dr d=>by
    subst h1;exact zhP ..
   cases e2 with
   | @int k n =>
     obtain⟨ds,L,a1,a2,a3,a4,a5,a6⟩:=zaA r (v+1) o vs (ds0 ++ [.int n]) L0 (by simp[h1]) h2 h3' h4'
     refine⟨.int n::ds,L,by simp[mkLeaves,a1],by simp[mkLeaves,a2],by simp[mkLeaves,a3],fun j k' d' hj hd=>?_,a5,fun dr Lr kk hk=>?_⟩
     · cases j with
       |zero=>simp[mkLeaves]at hj hd;subst hj;subst hd;exact e3
       |succ j=>exact a4 j k' d' (by simpa[mkLeaves]using hj) (by simpa using hd)
     · obtain⟨b1,b2⟩:=a6 dr Lr kk hk
       rw[show ds0 ++ [T.int n]++ds++dr=ds0++(.int n::ds)++dr by simp]at b1 b2
       refine⟨fun j l hj=>?_,b2⟩
       cases j with
       |zero=>simp[mkLeaves]at hj;subst hj;exact⟨_,rfl,n,henv ..,rfl⟩
       |succ j=>obtain⟨u,u1,u2⟩:=b1 j l (by simpa[mkLeaves]using hj);exact⟨u,by simpa using u1,u2⟩
   | @bool b =>
     obtain⟨ds,L,a1,a2,a3,a4,a5,a6⟩:=zaA r (v+1) o vs (ds0 ++ [.bool b]) L0 (by simp[h1]) h2 h3' h4'
     refine⟨.bool b::ds,L,by simp[mkLeaves,a1],by simp[mkLeaves,a2],by simp[mkLeaves,a3],fun j k' d' hj hd=>?_,a5,fun dr Lr kk hk=>?_⟩
     · cases j with
       |zero=>simp[mkLeaves]at hj hd;subst hj;subst hd;exact e3
       |succ j=>exact a4 j k' d' (by simpa[mkLeaves]using hj) (by simpa using hd)
     · obtain⟨b1,b2⟩:=a6 dr Lr kk hk
       rw[show ds0 ++ [T.bool b]++ds++dr=ds0++(.bool b::ds)++dr by simp]at b1 b2
       refine⟨fun j l hj=>?_,b2⟩
       cases j with
       |zero=>simp[mkLeaves]at hj;subst hj;exact⟨_,rfl,b,henv ..,rfl⟩
       |succ j=>obtain⟨u,u1,u2⟩:=b1 j l (by simpa[mkLeaves]using hj);exact⟨u,by simpa using u1,u2⟩
   | @str s =>
     obtain⟨ds,L,a1,a2,a3,a4,a5,a6⟩:=zaA r (v+1) o vs (ds0 ++ [.str s]) L0 (by simp[h1]) h2 h3' h4'
     refine⟨.str s::ds,L,by simp[mkLeaves,a1],by simp[mkLeaves,a2],by simp[mkLeaves,a3],fun j k' d' hj hd=>?_,a5,fun dr Lr kk hk=>?_⟩
     · cases j with
       |zero=>simp[mkLeaves]at hj hd;subst hj;subst hd;exact e3
       |succ j=>exact a4 j k' d' (by simpa[mkLeaves]using hj) (by simpa using hd)
     · obtain⟨b1,b2⟩:=a6 dr Lr kk hk
       rw[show ds0 ++ [T.str s]++ds++dr=ds0++(.str s::ds)++dr by simp]at b1 b2
       refine⟨fun j l hj=>?_,b2⟩
       cases j with
       |zero=>simp[mkLeaves]at hj;subst hj;exact⟨_,rfl,s,henv ..,rfl⟩
       |succ j=>obtain⟨u,u1,u2⟩:=b1 j l (by simpa[mkLeaves]using hj);exact⟨u,by simpa using u1,u2⟩
   |hole=>cases e3
   | @sl et ti rows a n c b off vs' Fs F hti hsz hn hc ha hwf hcell hrel hown hdis hdr hF =>
     have hD:DRel tab w false (.sl et) (.slice a n c) (.list rows) F:=.sl hti hsz hn hc ha hwf hcell hrel hown hdis hdr hF
     obtain⟨ds,L,a1,a2,a3,a4,a5,a6⟩:=zaA r (v+1) (o+1) vs (ds0 ++ [.list rows]) (L0 ++ [(a,n,c,F)]) (by simp[h1]) (by simp[h2]) h3' h4'
     refine⟨.list rows::ds,(a,n,c,F)::L,by simp[mkLeaves,a1],by simp[mkLeaves,a2],by simp[mkLeaves,a3],fun j k' d' hj hd=>?_,fun q h5 h6=>?_,fun dr Lr kk hk=>?_⟩
     · cases j with
       |zero=>simp[mkLeaves]at hj hd;subst hj;subst hd;exact e3
       |succ j=>exact a4 j k' d' (by simpa[mkLeaves]using hj) (by simpa using hd)
     · simp only[mkLeaves]
       by_cases e:o=q
       ·subst e;exact⟨_,zag⟩
       · rw[zaj e]
         exact a5 q (by omega) (by simp[mkLeaves]at h6;omega)
     · obtain⟨b1,b2⟩:=a6 dr Lr kk (fun q hq=>hk q (by simp[mkLeaves];omega))
       rw[show ds0 ++ [T.list rows]++ds++dr=ds0++(.list rows::ds)++dr by simp,show L0 ++ [(a,n,c,F)]++L++Lr=L0++((a,n,c,F)::L)++Lr by simp]at b1 b2
       have hsp:(L0++((a,n,c,F)::L)++Lr).getD o (none,0,0,Emp)=(a,n,c,F):=by subst h2;exact zhP ..
       have hA:(ctxOf (L0++((a,n,c,F)::L)++Lr)).A o=a/\(ctxOf (L0++((a,n,c,F)::L)++Lr)).N o=n/\(ctxOf (L0++((a,n,c,F)::L)++Lr)).K o=c/\(ctxOf (L0++((a,n,c,F)::L)++Lr)).F o=F:=by
        simp only[ctxOf,hsp,and_self]
       refine⟨fun j l hj=>?_,fun q ob hq=>?_⟩
       · cases j with
         | zero =>
           simp[mkLeaves]at hj;subst hj
           refine⟨_,rfl,hk o (by simp[mkLeaves]),a,by rw[hA.2.1,hA.2.2.1],?_⟩
           rw[hA.2.2.1,hA.1]
           rcases ha with ha|ha
           ·exact .inr ⟨b,off,ha,ha⟩
           ·exact .inl ha
         |succ j=>obtain⟨u,u1,u2⟩:=b1 j l (by simpa[mkLeaves]using hj);exact⟨u,by simpa using u1,u2⟩
       · simp only[mkLeaves,List.mem_cons]at hq
         rcases hq with hq|hq
         · cases hq
           exact⟨rfl,rfl,rows,henv ..,by rw[hA.1,hA.2.1,hA.2.2.1,hA.2.2.2];exact hD⟩
         ·exact b2 q ob hq
structure ArgIn(tab:Tab)(w:World)(ti:TI)(v:Value):Prop where
 len:v.cells.toList.length=ti.size
 cell:∀(j:Nat) ck,ti.cks[j]? = some ck->∃u d F,v.cells.toList[j]? = some u/\DRel tab w false ck u d F/\WfD tab ck d
 agg:ti.agg=true->∃cs,v = .agg cs
 one:ti.agg=false->ti.size=1/\∀cs,v ≠ .agg cs
theorem zes : ∀ (tis : List TI) (v o : Nat) (vs : List Value) (ds0 : List T) (L0 : List Spot), ds0.length = v -> L0.length = o -> vs.length = tis.length ->
 (∀(j:Nat) ti,tis[j]? = some ti->ti.size=ti.cks.length/\∃u,vs[j]? = some u/\ArgIn tab w ti u) ->
 ∃ (ds : List T) (L : List Spot), ds.length = (mkIns tis v o).ks.length /\ L.length = (mkIns tis v o).obs.length /\ (mkIns tis v o).ins.length = tis.length /\
   (∀(j:Nat) k d,(mkIns tis v o).ks[j]? = some k->ds[j]? = some d->WfD tab k d) /\
   (∀q,o<=q->q<o+(mkIns tis v o).obs.length->∃ob,look q (mkIns tis v o).obs=some ob) /\
   ∀ (dr : List T) (Lr : List Spot) (k : Nat -> Prop), (∀ q, q < o + (mkIns tis v o).obs.length -> k q) ->
     (∀(j:Nat) x,(mkIns tis v o).ins[j]? = some x->∃u,vs[j]? = some u/\S1Rel tab (ctxOf (L0++L++Lr)) k (envOf (ds0++ds++dr)) x u) /\
     (∀q ob,(q,ob)∈(mkIns tis v o).obs->ob.owned=false/\ob.isView=false/\ObRel tab (ctxOf (L0++L++Lr)) k (envOf (ds0++ds++dr)) noGam w q ob)
 |[],v,o,vs,ds0,L0,h1,h2,h3,h4=>⟨[],[],rfl,rfl,rfl,fun j k d hj=>by simp[mkIns]at hj,fun q h5 h6=>by simp[mkIns]at h6;omega,fun dr Lr k hk=>⟨fun j l hj=>by simp[mkIns]at hj,fun q ob hq=>by simp[mkIns]at hq⟩⟩
 |ti::r,v,o,[],ds0,L0,h1,h2,h3,h4=>by simp at h3
 | ti :: r, v, o, u :: vs, ds0, L0, h1, h2, h3, h4 => by
   obtain⟨hsz,u',e1,e2⟩:=h4 0 ti rfl
   simp at e1;subst e1
   obtain⟨ds,L,a1,a2,a3,a4,a5,a6⟩:=zaA ti.cks v o u.cells.toList ds0 L0 h1 h2 (by rw[e2.len,hsz]) e2.cell
   obtain⟨ds2,L2,b1,b2,b3,b4,b5,b6⟩:=zes r (v+(mkLeaves ti.cks v o).ks.length) (o+(mkLeaves ti.cks v o).obs.length) vs (ds0++ds) (L0++L) (by simp[h1,a1]) (by simp[h2,a2]) (by simpa using h3)
    (fun j tj hj=>by
     obtain⟨q1,u,q2,q3⟩:=h4 (j+1) tj (by simpa using hj)
     exact⟨q1,u,by simpa using q2,q3⟩)
   have hlook:∀(a b:Obs) (q:Nat),(∃ob,look q a=some ob)\/(∃ob,look q b=some ob)->∃ob,look q (a++b)=some ob:=by
    intro a b q hh
    rw[zbH]
    cases hx:look q a with
    |some y=>exact⟨y,rfl⟩
    | none =>
      rcases hh with⟨ob,hh⟩|⟨ob,hh⟩
      ·rw[hx]at hh;cases hh
      ·exact⟨ob,hh⟩
   refine⟨ds++ds2,L++L2,by simp[mkIns,a1,b1],by simp[mkIns,a2,b2],by simp[mkIns,b3],fun j k d hj hd=>?_,fun q h5 h6=>?_,fun dr Lr k hk=>?_⟩
   · simp only[mkIns]at hj
     by_cases hlt:j<(mkLeaves ti.cks v o).ks.length
     · rw[List.getElem?_append_left hlt]at hj
       rw[List.getElem?_append_left (by omega)]at hd
       exact a4 j k d hj hd
     · rw[List.getElem?_append_right (by omega)]at hj
       rw[List.getElem?_append_right (by omega),a1]at hd
       exact b4 _ k d hj hd
   · simp only[mkIns]at h6 ⊢
     simp only[List.length_append]at h6
     by_cases hlt:q<o+(mkLeaves ti.cks v o).obs.length
     ·exact hlook _ _ _ (.inl (a5 q h5 hlt))
     ·exact hlook _ _ _ (.inr (b5 q (by omega) (by omega)))
   · have hk1:∀q,q<o+(mkLeaves ti.cks v o).obs.length->k q:=fun q hq=>hk q (by simp only[mkIns,List.length_append];omega)
     obtain⟨c1,c2⟩:=a6 (ds2++dr) (L2++Lr) k hk1
     obtain⟨d1,d2⟩:=b6 dr Lr k (fun q hq=>hk q (by simp only[mkIns,List.length_append];omega))
     rw[show ds0++ds++(ds2++dr)=ds0++(ds++ds2)++dr by simp,show L0++L++(L2++Lr)=L0++(L++L2)++Lr by simp]at c1 c2
     rw[show ds0++ds++ds2++dr=ds0++(ds++ds2)++dr by simp,show L0++L++L2++Lr=L0++(L++L2)++Lr by simp]at d1 d2
     refine⟨fun j x hj=>?_,fun q ob hq=>?_⟩
     · cases j with
       | zero =>
         refine⟨u,rfl,?_⟩
         simp only[mkIns,List.getElem?_cons_zero,Option.some.injEq]at hj
         subst hj
         cases hag:ti.agg with
         | true =>
           obtain⟨cs,rfl⟩:=e2.agg hag
           rw[if_pos rfl]
           have hl:=e2.len
           simp only[Value.cells]at hl c1
           refine⟨cs,rfl,by rw[a3,<- hsz,<- hl];simp,fun i l hi=>?_⟩
           obtain⟨x,x1,x2⟩:=c1 i l hi
           exact⟨x,by simpa using x1,x2⟩
         | false =>
           obtain⟨f1,f2⟩:=e2.one hag
           rw[if_neg (by simp)]
           have hc:u.cells.toList = [u]:=by
            cases u<;>first|rfl|exact absurd rfl (f2 _)
           have hlen:(mkLeaves ti.cks v o).ls.length=1:=by rw[a3,<- hsz,f1]
           match hls:(mkLeaves ti.cks v o).ls,hlen with
           | [l], _ =>
             obtain⟨x,x1,x2⟩:=c1 0 l (by rw[hls];rfl)
             rw[hc]at x1
             simp at x1;subst x1
             exact⟨x2,f2⟩
       | succ j =>
         obtain⟨x,x1,x2⟩:=d1 j x (by simpa[mkIns]using hj)
         exact⟨x,by simpa using x1,x2⟩
     · simp only[mkIns,List.mem_append]at hq
       rcases hq with hq|hq
       ·exact c2 q ob hq
       ·exact d2 q ob hq
def WfDs (tab:Tab)(ks:List CK)(ds:List T):Prop:=ds.length=ks.length/\∀(j:Nat) k d,ks[j]? = some k->ds[j]? = some d->WfD tab k d
theorem zke {S:Sig}{tis:List TI}{args:Array Value}(hins:S.ins=(mkIns tis 0 0).ins)(hobs:S.obs=(mkIns tis 0 0).obs)(hsz:args.size=tis.length)
 (hargs:∀(j:Nat) ti,tis[j]? = some ti->ti.size=ti.cks.length/\∃u,args[j]? = some u/\ArgIn tab w ti u) :
 ∃ds,WfDs tab (mkIns tis 0 0).ks ds/\∃C,EntryRel tab S (envOf ds) args w C/\∀b x,¬WrOf S.obs C b x:=by
 obtain⟨ds,L,a1,a2,a3,a4,a5,a6⟩:=zes (tab:=tab) (w:=w) tis 0 0 args.toList [] [] rfl rfl (by simpa using hsz) (fun j ti hj=>by
  obtain⟨q1,u,q2,q3⟩:=hargs j ti hj
  exact⟨q1,u,by simpa using q2,q3⟩)
 obtain⟨b1,b2⟩:=a6 [] [] (kIn S.obs) (fun q hq=>by rw[hobs];exact a5 q (Nat.zero_le _) hq)
 simp only[List.nil_append,List.append_nil]at b1 b2
 have hno:∀o ob,look o S.obs=some ob->ob.owned=false/\ob.isView=false/\ObRel tab (ctxOf L) (kIn S.obs) (envOf ds) noGam w o ob:=fun o ob ho=>b2 o ob (by rw[<- hobs];exact zam ho)
 refine⟨ds,⟨a1,a4⟩,ctxOf L,⟨by rw[hins,a3];exact hsz,fun i x hi=>?_,fun o ob ho=>(hno o ob ho).2,fun o1 o2 ob1 ob2 h1 _ _ ho=>?_⟩,?_⟩
 · rw[hins]at hi
   obtain⟨u,u1,u2⟩:=b1 i x hi
   exact⟨u,by simpa using u1,u2⟩
 ·rw[(hno o1 ob1 h1).1]at ho;cases ho
 · rintro b x ⟨o,ob,h1,h2,_⟩
   rw[(hno o ob h1).1]at h2;cases h2
theorem zjs {sigs:List Sig}{ps:List PI}{i:Nat}{S:Sig}{tis:List TI}{args:Array Value}(hall:AllInst P tab sigs ps 0)(hi:sigs[i]? = some S)(hins:S.ins=(mkIns tis 0 0).ins)(hobs:S.obs=(mkIns tis 0 0).obs)
 (houts:S.outs = [.one (.bool (.var 0))]) (hsz:args.size=tis.length) (hargs:∀(j:Nat) ti,tis[j]? = some ti->ti.size=ti.cks.length/\∃u,args[j]? = some u/\ArgIn tab w ti u)
 (hpure:∀ds,WfDs tab (mkIns tis 0 0).ks ds->CallI (sysOf ps) i ds [.bool true]) :
 Calls P S.f args w fun e w'=>e = .returned (.bool true)/\w'.os=w.os/\w'.tape=w.tape/\w'.output=w.output/\w.heap.size<=w'.heap.size/\∀k,k<w.heap.size->w'.heap[k]? = w.heap[k]?:=by
 obtain⟨ds,hw,C,he,hno⟩:=zke hins hobs hsz hargs
 obtain⟨S',h1,_,hc⟩:=zkv hall (hpure ds hw)
 rw[hi]at h1;cases h1
 refine Calls.mono (hc args w C he) ?_
 rintro e w' ⟨v,C',rfl,out⟩
 have hr:=out.res
 rw[houts]at hr
 obtain⟨⟨b,h2,h3⟩,_⟩:=hr
 have:b=true:=by
  simp only[den,envOf]at h2
  have h4:T.bool true=T.bool b:=h2
  exact (T.bool.inj h4).symm
 subst this
 exact⟨by rw[h3],out.trn.os,out.trn.tape,out.trn.output,out.trn.size,fun k hk=>out.trn.blk k hk fun x hx=>hno k x hx⟩
end
end Gp
namespace Gp
open Go
section
variable {H:Type}{enc:TypeId × Value->H}{P:Program}{tab:Tab}{w:World}{base b2:Nat}{spare:Nat->Bool}{held:Bool}
theorem zkk (hT:TabOk P tab)(hsp:∀b,spare b=true){m:Nat}{t:TypeId}{ti:TI}{v:Value}{d:DataW H}{p:List MemPlace}{r:Reach}(hg:goodT tab m t=true)(hti:tab.get t=some ti)
 (h:DataW.Trod enc P w base spare held t v d p) (hok:Value.okWide P w r b2 t v):ArgIn tab w ti v:=by
 obtain⟨fuel,hf⟩:=h
 obtain⟨h1,h2⟩:=zjf hT hsp fuel m hg hti hf
 obtain⟨dd,hd1,hd2,hd3⟩:=(hT t ti hti).und
 have hck:=(hT t ti hti).cks
 have hlen:=(hT t ti hti).len
 refine⟨h1,h2,fun ha=>?_,fun ha=>?_⟩
 · rw[ha]at hd3
   simp only[Value.okWide,hd1]at hok
   cases dd<;>simp[isAggD]at hd3
   ·obtain⟨cs,rfl,_⟩:=hok;exact⟨cs,rfl⟩
   ·obtain⟨cs,rfl,_⟩:=hok;exact⟨cs,rfl⟩
 · rw[ha]at hd3
   have hs:ti.size=1:=by
    cases m with
    |zero=>cases hg
    | succ m =>
      simp only[goodT,hti]at hg
      cases htd:ti.td<;>rw[htd]at hg hd2<;>first
       |(cases hg;done)
       |(simp only[cksOf,htd,beq_iff_eq]at hck;rw[hlen,hck];rfl)
       |(cases dd<;>simp[tdChk,isAggD]at hd2 hd3)
   refine⟨hs,fun cs e=>?_⟩
   subst e
   simp only[Value.okWide,hd1]at hok
   cases dd<;>simp[isAggD]at hd3<;>simp_all[Cell.okWide,Cell.ok]
end
end Gp
