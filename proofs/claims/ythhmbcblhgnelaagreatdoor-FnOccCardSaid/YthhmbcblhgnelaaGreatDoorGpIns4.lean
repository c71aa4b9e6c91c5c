import Derived.Test.YthhmbcblhgnelaaGreatDoorGpIns3
set_option linter.unusedVariables false
set_option linter.unusedSimpArgs false
namespace Gp
open Go Go.Shelf
section
variable {tab:Tab}{w:World}{C:Ctx}{P:Program}{ρ:Ren}
structure InsT(P:Program)(tab:Tab)(ρ:Ren)(ti te:TI):Prop where
 hT:TabOk P tab
 mixed:P.follows .mixedOrders=true
 t3:P.underlying (ρ.t 3)=some (.int .i64)
 t4:P.underlying (ρ.t 4)=some .bool
 h24:tab.get (ρ.t 24)=some ti
 d24:ti.td = .slice (ρ.t 9)
 h9:tab.get (ρ.t 9)=some te
 a3:∀w,Sem.run P (isAgg (ρ.t 3)) w = .ok false w
 a4:∀w,Sem.run P (isAgg (ρ.t 4)) w = .ok false w
 a24:∀w,Sem.run P (isAgg (ρ.t 24)) w = .ok false w
 z3:∀w,Sem.run P (Go.sizeOf (ρ.t 3)) w = .ok 1 w
 z24:∀w,Sem.run P (Go.sizeOf (ρ.t 24)) w = .ok 1 w
 h3:∃ti3,tab.get (ρ.t 3)=some ti3/\ti3.td = .int .i64
 flat:flatCks te.cks=true
 k0:0<te.size
 b0:0<te.bytes
 hz:∃zs,te.cks.mapM (zeroE tab)=some zs
 ov:∃fn,P.funcs[ρ.f 29]? = some fn/\(fn.name == "runtime.NumGoroutine")=false/\fn.body.isNone=true/\Extern.findNext fn=none/\Extern.find fn=some (Extern.SlicesOverlaps.overlaps #[ρ.t 24,ρ.t 24] #[ρ.t 4])
theorem Turned.sub'{F G:CS}{w w':World}(h:Turned F w w')(hs:Sub F G):Turned G w w' :=
 ⟨h.size,fun b hb hn=>h.blk b hb fun x hx=>hn x (hs b x hx),fun b x hb hn=>h.cel b x hb fun hx=>hn (hs b x hx),h.os,h.tape,h.output⟩
theorem Turned.after{F G:CS}{w w1 w2:World}(h:Turned F w w1)(k:Turned G w1 w2)(hG:∀b x,G b x->F b x\/w.heap.size<=b):Turned F w w2 where
 size:=Nat.le_trans h.size k.size
 blk b hb hn:=(k.blk b (Nat.lt_of_lt_of_le hb h.size) fun x hx=>(hG b x hx).elim (hn x) fun h'=>by omega).trans (h.blk b hb hn)
 cel b x hb hn:=by
  have h1:=h.cel b x hb hn
  have h2:=k.cel b x (Nat.lt_of_lt_of_le hb h.size) fun hx=>(hG b x hx).elim hn fun h'=>by omega
  exact⟨h2.1.trans h1.1,h2.2.trans h1.2⟩
 os:=k.os.trans h.os
 tape:=k.tape.trans h.tape
 output:=k.output.trans h.output
theorem zln {k i n:Nat}{rows rv:List T}(h0:WfRows k rows)(h1:WfRows k rv)(hn:rows.length=n)(hi:i<=n):WfRows k (rows.take i++(rv++rows.drop i)):=by
 refine zdc ?_ (zdc h1 ?_)
 · have:=zhR (l:=0) (h:=i) (by omega) h0
   simpa using this
 · have:=zhR (l:=i) (h:=n) (by omega) h0
   rwa[<- hn,List.take_length]at this
theorem zjZ {k i n:Nat}{rows rv:List T}(hn:rows.length=n)(h1:rv.length=1)(hi:i<=n){q j:Nat}(hq:q<n+1) :
 cellT k (rows.take i++(rv++rows.drop i)) q j=if q<i then cellT k rows q j else if q=i then cellT k rv 0 j else cellT k rows (q-1) j:=by
 have ht:(rows.take i).length=i:=by rw[List.length_take];omega
 by_cases c1:q<i
 · rw[if_pos c1,za6 (by omega)]
   have:=zbX (k:=k) (l:=0) (h:=i) (rows:=rows) (i:=q) (j:=j) (by omega)
   simpa using this
 · rw[if_neg c1]
   obtain⟨r,rfl⟩:∃r,q=i+r:=⟨q-i,by omega⟩
   have:=za3 (k:=k) (a:=rows.take i) (b:=rv++rows.drop i) (i:=r) (j:=j)
   rw[ht]at this
   rw[this]
   by_cases c2:r=0
   · subst c2
     rw[if_pos (by omega),za6 (by omega)]
   · rw[if_neg (by omega)]
     obtain⟨t,rfl⟩:∃t,r=1+t:=⟨r-1,by omega⟩
     have h2:=za3 (k:=k) (a:=rv) (b:=rows.drop i) (i:=t) (j:=j)
     rw[h1]at h2
     rw[h2]
     have h3:=zbX (k:=k) (l:=i) (h:=n) (rows:=rows) (i:=t) (j:=j) (by omega)
     rw[<- hn,List.take_length]at h3
     rw[h3];congr 1;omega
theorem zir {et:TypeId}{te:TI}(hte:tab.get et=some te)(hsz:te.size=te.cks.length){W2:World}{B O c' n i:Nat}{rows rv:List T}{vs us:Nat->Nat->Value}
 (h0:WfRows te.size rows) (h1:WfRows te.size rv) (hn:rows.length=n) (hv:rv.length=1) (hi:i<=n) (hc:n+1<=c')
 (r0:∀q j ck,q<n->te.cks[j]? = some ck->DRel tab w true ck (vs q j) (cellT te.size rows q j) Emp)
 (r1:∀q j ck,q<1->te.cks[j]? = some ck->DRel tab w true ck (us q j) (cellT te.size rv q j) Emp)
 (hcell:∀q j,q<n+1->j<te.size->cellAt W2 B (O+q*te.size+j)=some (if q<i then vs q j else if q=i then us 0 j else vs (q-1) j))
 (hown:∀x,x<c'*te.size->∃v,cellAt W2 B (O+x)=some v/\frozenAt W2 B (O+x)=false) :
 DRel tab W2 true (.sl et) (.slice (some ⟨B,O,none⟩) (n+1) c') (.list (rows.take i++(rv++rows.drop i))) (rowF B O c' (n+1) te.size fun _ _=>Emp):=by
 refine DRel.ofCells hte hsz ?_ hc (zln h0 h1 hn hi) hcell (fun q j ck hq hj=>?_) hown
 ·simp only[List.length_append,List.length_take,List.length_drop];omega
 · rw[zjZ hn hv hi hq]
   by_cases c1:q<i
   ·rw[if_pos c1,if_pos c1];exact (r0 q j ck (by omega) hj).frame fun _ _ h=>h.elim
   · rw[if_neg c1,if_neg c1]
     by_cases c2:q=i
     ·rw[if_pos c2,if_pos c2];exact (r1 0 j ck (by omega) hj).frame fun _ _ h=>h.elim
     ·rw[if_neg c2,if_neg c2];exact (r0 (q-1) j ck (by omega) hj).frame fun _ _ h=>h.elim
theorem zjW {ti te : TI} (H : InsT P tab ρ ti te) {f : FuncId} {nm : String} (hf : P.funcs[f]? = some { Go.Proofs.Body2.n22 ρ with name := nm })
 {a0 a1:Option Addr} {n c i vc:Nat} {rows rv:List T} {F0 F1:CS} (D0:DRel tab w true (.sl (ρ.t 9)) (.slice a0 n c) (.list rows) F0) (D1:DRel tab w true (.sl (ρ.t 9)) (.slice a1 1 vc) (.list rv) F1)
 (hdj:Disj F0 F1) (hi:i<=n) (hlim:(n+1)*te.bytes<=140737488355328) :
 ∃ a' c' w' F', (Calls P f #[.slice a0 n c, .int .i64 i, .slice a1 1 vc] w fun e w2 => e = .returned (.slice a' (n + 1) c') /\ w2 = w') /\ Turned F0 w w' /\
   DRel tab w' true (.sl (ρ.t 9)) (.slice a' (n+1) c') (.list (rows.take i++(rv++rows.drop i))) F'/\(∀b x,F' b x->F0 b x\/w.heap.size<=b):=by
 have hn63:n<=140737488355328:=Nat.le_trans (Nat.le_trans (Nat.le_succ n) (Nat.le_mul_of_pos_right _ H.b0)) hlim
 have t24:=zaB H.hT H.h24 H.d24
 have z9:∀w,Sem.run P (Go.sizeOf (ρ.t 9)) w = .ok te.size w:=fun w=>zas H.hT H.h9
 have hsz:te.size=te.cks.length:=(H.hT _ te H.h9).len
 have hk0:=H.k0
 obtain⟨hr0,hnc,_⟩:=D0.header
 obtain⟨hr1,hvc,hA1⟩:=D1.header
 obtain⟨vb,voff,rfl⟩:∃b o,a1=some ⟨b,o,none⟩:=by
  rcases hA1 with h|h
  ·omega
  ·exact h
 by_cases hin:i=n
 · -- at the end
   subst hin
   obtain⟨b2,off2,us,e1,e2⟩:=Src.ofFlat H.h9 H.flat D1
   obtain⟨a',c',w',F',r1,r2,r3,r4,_⟩:=zfo (P:=P) (ty:=ρ.t 24) H.hT H.h24 H.d24 H.h24 H.d24 H.h9 hk0 H.b0 D0 (a2:=some ⟨vb,voff,none⟩) (c2:=vc) e1 e2 (fun _ _ _ _ _ _ _ h=>h) hlim
   refine⟨a',c',w',F',zkJ H.mixed hf H.t3 H.t4 t24 H.a3 H.a4 H.a24 H.z3 H.z24 z9 a0 i c vb voff vc w w' hnc a' c' (fun ty=>?_),r2,?_,fun b x hx=>?_⟩
   ·exact r1
   · have:rows.take i++(rv++rows.drop i)=rows++rv:=by
      rw[<- hr0,List.take_length,List.drop_length,List.append_nil]
     rw[this];exact r3
   · rcases r4 b x hx with h|h|⟨_,_,_,_,h⟩
     ·exact .inl h
     ·exact .inr h
     ·exact h.elim
 · have hi':i<n:=by omega
   have hfl:=H.flat
   simp only[flatCks,List.all_eq_true]at hfl
   cases D0 with
   | @sl et0 te0 rows _ n c b off vs Fs F0 hte0 hsz0 hn hc ha hwf hcell hrel hown hdis hdr hF =>
   cases D1 with
   | @sl et1 te1 rv a1 n1 vc b1 off1 us Fs1 F1 hte1 hsz1 hn1 hc1 ha1 hwf1 hcell1 hrel1 hown1 hdis1 hdr1 hF1 =>
   have e0:te0=te:=by rw[H.h9]at hte0;exact (Option.some.inj hte0).symm
   have e1:te1=te:=by rw[H.h9]at hte1;exact (Option.some.inj hte1).symm
   subst e0
   subst e1
   have ha0:a0=some ⟨b,off,none⟩:=ha.resolve_right (by omega)
   subst ha0
   have hav:=ha1.resolve_right (by omega)
   obtain⟨rfl,rfl⟩:vb=b1/\voff=off1:=by simpa using hav
   simp only[if_true]at hF hF1
   have hown:=hown rfl
   have hown1:=hown1 rfl
   have r0:∀q j ck,q<n->te1.cks[j]? = some ck->DRel tab w true ck (vs q j) (cellT te1.size rows q j) Emp:=fun q j ck hq hj=>(hrel q j ck hq hj).flat (hfl ck (List.mem_of_getElem? hj))
   have r1:∀q j ck,q<1->te1.cks[j]? = some ck->DRel tab w true ck (us q j) (cellT te1.size rv q j) Emp:=fun q j ck hq hj=>(hrel1 q j ck hq hj).flat (hfl ck (List.mem_of_getElem? hj))
   obtain⟨K,hK⟩:∃K,te1.size=K:=⟨_,rfl⟩
   have one0:∀q j,q<n->j<K->(vs q j).oneCell'=true:=fun q j hq hj=>by
    obtain⟨ck,hck⟩:∃ck,te1.cks[j]? = some ck:=⟨_,List.getElem?_eq_getElem (by omega)⟩
    exact (r0 q j ck hq hck).ownCell
   have one1:∀j,j<K->(us 0 j).oneCell'=true:=fun j hj=>by
    obtain⟨ck,hck⟩:∃ck,te1.cks[j]? = some ck:=⟨_,List.getElem?_eq_getElem (by omega)⟩
    exact (r1 0 j ck (by omega) hck).ownCell
   have in0:∀x,x<c*K->F0 b (off+x):=fun x hx=>by rw[hF];exact .inl ⟨rfl,by omega,by rw[hK];omega⟩
   have in1:∀x,x<K->F1 vb (voff+x):=fun x hx=>by
    rw[hF1]
    refine .inl ⟨rfl,by omega,?_⟩
    rw[hK]
    have:1*K<=vc*K:=Nat.mul_le_mul_right _ hvc
    omega
   have apart:∀x y,x<c*K->y<K->¬(vb=b/\voff+y=off+x):=fun x y hx hy h=>hdj b (off+x) (in0 x hx) (by have:=in1 y hy;rw[h.1,h.2]at this;exact this)
   have hnK:(n+1)*K=n*K+K:=by rw[Nat.add_mul,Nat.one_mul]
   have hiK:(i+1)*K=i*K+K:=by rw[Nat.add_mul,Nat.one_mul]
   have hniK:(n-i)*K+i*K=n*K:=by rw[<- Nat.add_mul];congr 1;omega
   have hK0:0<K:=by omega
   have hjK:K<=(n-i)*K:=Nat.le_mul_of_pos_left K (by omega)
   have z9':∀w,Sem.run P (Go.sizeOf (ρ.t 9)) w = .ok K w:=fun w=>by rw[<- hK];exact z9 w
   by_cases hroom:n+1<=c
   · -- in place
     have hcK:(n+1)*K<=c*K:=Nat.mul_le_mul_right _ hroom
     have hmn:n-i=Nat.min (n+1-i) (n-i):=by simp only[Nat.min_def];split<;>omega
     obtain⟨W1,p1,p2,p3,p4,p5,p6⟩:=zch (P:=P) (w:=w.drew) H.hT (dT:=ρ.t 24) (sT:=ρ.t 24) t24 H.h9 (b:=b) (o:=off+(i+1)*K) (dLen:=n-i) (b2:=b) (o2:=off+i*K) (sLen:=n+1-i) (m:=n-i)
      (us:=fun q=>vs (i+q / K) (q%K)) hmn (fun q hq=>by
       rw[hK]at hq
       obtain⟨g1,g2,g3⟩:=zaN (by omega) hq
       have:=hcell (i+q / K) (q%K) (by omega) (by omega)
       rw[hK]at this
       show cellAt w b _=_
       rw[<- this];congr 1
       rw[Nat.add_mul];omega) (fun q hq=>by
       rw[hK]at hq
       obtain⟨g1,g2,g3⟩:=zaN (by omega) hq
       exact one0 _ _ (by omega) g2) (fun x hx=>by
       rw[hK]at hx
       have:=hown ((i+1)*K+x) (by rw[hK];omega)
       rwa[<- Nat.add_assoc]at this)
     rw[hK]at p2 p3 p4
     obtain⟨W2,s1,s2,s3,s4,s5,s6⟩:=zch (P:=P) (w:=W1) H.hT (dT:=ρ.t 24) (sT:=ρ.t 24) t24 H.h9 (b:=b) (o:=off+i*K) (dLen:=n+1-i) (b2:=vb) (o2:=voff) (sLen:=1) (m:=1)
      (us:=fun q=>us 0 q) (by simp only[Nat.min_def];split<;>omega) (fun q hq=>by
       rw[hK,Nat.one_mul]at hq
       have h1:=hcell1 0 q (by omega) (by omega)
       rw[Nat.zero_mul,Nat.add_zero]at h1
       rw[p4 vb (voff+q) (fun h=>by
        obtain⟨z,hz⟩:∃z,voff+q=off+z/\z<c*K:=⟨voff+q-off,by omega,by omega⟩
        exact apart z q hz.2 hq ⟨h.1,hz.1⟩)]
       exact h1) (fun q hq=>by rw[hK,Nat.one_mul]at hq;exact one1 q hq) (fun x hx=>by
       rw[hK,Nat.one_mul]at hx
       obtain⟨v,v1,v2⟩:=hown (i*K+x) (by rw[hK];omega)
       rw[<- Nat.add_assoc]at v1 v2
       exact⟨v,by rw[p4 b _ (by omega)];exact v1,by rw[p5];exact v2⟩)
     rw[hK,Nat.one_mul]at s2 s3 s4
     have hsub:Sub (Rng b (off+(i+1)*K) ((n-i)*K)) F0:=by
      rintro b' x ⟨rfl,x1,x2⟩
      obtain⟨z,rfl⟩:∃z,x=off+z:=⟨x-off,by omega⟩
      exact in0 z (by omega)
     have hsub2:Sub (Rng b (off+i*K) K) F0:=by
      rintro b' x ⟨rfl,x1,x2⟩
      obtain⟨z,rfl⟩:∃z,x=off+z:=⟨x-off,by omega⟩
      exact in0 z (by omega)
     refine⟨some ⟨b,off,none⟩,c,W2,rowF b off c (n+1) te1.size fun _ _=>Emp,ziQ H.mixed hf H.t3 H.t4 t24 H.a3 H.a4 H.a24 H.z3 H.z24 z9' b off n c i vb voff vc w W1 W2 hi' hroom (by omega) ?_ ?_ ?_,?_,?_,?_⟩
     · intro cb
       obtain⟨fn,o1,o2,o3,o4,o5⟩:=H.ov
       have hr:(Extern.SlicesOverlaps.overlaps #[ρ.t 24,ρ.t 24] #[ρ.t 4] #[.slice (some ⟨vb,voff,none⟩) 1 vc,.slice (some ⟨b,off+(i+1)*K,none⟩) (n-i) cb]).run P w = .ok (.bool false) w:=by
        by_cases hbb:vb=b
        · subst hbb
          refine zd7 t24 z9' ?_
          rintro⟨h1,h2⟩
          rw[Nat.one_mul]at h2
          by_cases h3:voff<=off+(i+1)*K
          ·exact apart ((i+1)*K) (off+(i+1)*K-voff) (by omega) (by omega) ⟨rfl,by omega⟩
          ·exact apart (voff-off) 0 (by omega) (by omega) ⟨rfl,by omega⟩
        · have hv0:=hcell1 0 0 (by omega) (by omega)
          simp only[Nat.zero_mul,Nat.add_zero]at hv0
          obtain⟨tA,kA,hsa,_⟩:=zf6 hv0
          obtain⟨u0,hu0,hfz⟩:=hown 0 (by rw[hK];omega)
          obtain⟨tB,kB,hsb,hkB⟩:=zf6 hu0
          obtain⟨u1,hu1,hfz1⟩:=hown1 0 (by
           have:1*te1.size<=vc*te1.size:=Nat.mul_le_mul_right _ hvc
           omega)
          exact Lib.run_overlaps_apart w (ρ.t 24) (ρ.t 4) (ρ.t 9) t24 K z9' ⟨vb,voff,none⟩ ⟨b,off+(i+1)*K,none⟩ 1 vc (n-i) cb hbb tA tB kA kB hsa hsb (by omega) (zeV hfz1 _) (zeV hfz1 _)
       rw[run_callFunc_extern o1 o2 o3 o4 o5,hr]
       rfl
     ·exact fun ty dc sc=>(p1 ty dc sc).trans (by rw[show ((n-i:Nat):Int)=(n:Int)-(i:Int) by omega])
     ·exact fun ty dc=>s1 ty dc vc
     ·exact (((Grows.drew w).turned F0).trans (p2.sub' hsub)).trans (s2.sub' hsub2)
     · refine zir H.h9 hsz hwf hwf1 hn hn1 hi hroom r0 r1 (fun q j hq hj=>?_) fun x hx=>?_
       · rw[hK]at hj ⊢
         by_cases c1:q<i
         · rw[if_pos c1]
           have hle:q*K+K<=i*K:=by
            have:=Nat.mul_le_mul_right K (show q+1<=i by omega)
            rwa[Nat.add_mul,Nat.one_mul]at this
           rw[s4 b _ (by omega),p4 b _ (by omega)]
           have:=hcell q j (by omega) (by omega)
           rwa[hK]at this
         · rw[if_neg c1]
           by_cases c2:q=i
           · subst c2
             rw[if_pos rfl]
             exact s3 j hj
           · rw[if_neg c2]
             obtain⟨r,rfl⟩:∃r,q=i+1+r:=⟨q-i-1,by omega⟩
             have e1:(i+1+r)*K=(i+1)*K+r*K:=Nat.add_mul ..
             have hrK:r*K+K<=(n-i)*K:=by
              have:=Nat.mul_le_mul_right K (show r+1<=n-i by omega)
              rwa[Nat.add_mul,Nat.one_mul]at this
             rw[e1,s4 b _ (by omega)]
             have:=p3 (r*K+j) (by omega)
             rw[show off+((i+1)*K+r*K)+j=off+(i+1)*K+(r*K+j) by omega,this]
             have d1:(r*K+j) / K=r:=by
              rw[Nat.mul_comm,Nat.mul_add_div (by omega),Nat.div_eq_of_lt hj,Nat.add_zero]
             have d2:(r*K+j)%K=j:=by
              rw[Nat.mul_comm,Nat.mul_add_mod,Nat.mod_eq_of_lt hj]
             rw[d1,d2,show i+1+r-1=i+r by omega]
       · rw[hK]at hx
         obtain⟨v,v1,v2⟩:=hown x (by rw[hK];exact hx)
         obtain⟨u,hu⟩:∃v,cellAt W2 b (off+x)=some v:=by
          (
           by_cases c1:off+i*K<=off+x/\off+x<off+i*K+K
           · have:=s3 (x-i*K) (by omega)
             rw[show off+i*K+(x-i*K)=off+x by omega]at this
             exact⟨_,this⟩
           · rw[s4 b _ (by omega)]
             by_cases c2:off+(i+1)*K<=off+x/\off+x<off+(i+1)*K+(n-i)*K
             · have:=p3 (x-(i+1)*K) (by omega)
               rw[show off+(i+1)*K+(x-(i+1)*K)=off+x by omega]at this
               exact⟨_,this⟩
             ·rw[p4 b _ (by omega)];exact⟨v,v1⟩)
         exact⟨u,hu,by rw[s5,p5];exact v2⟩
     · intro b' x hx
       rw[zid]at hx
       obtain⟨rfl,x1,x2⟩:=hx
       obtain⟨z,rfl⟩:∃z,x=off+z:=⟨x-off,by omega⟩
       exact .inl (in0 z (by rw[<- hK];omega))
   · -- a new block
     have hcn:¬i+(n+1-i)<=c:=by omega
     have hsum:i+(n+1-i)=n+1:=by omega
     have hwt:WfRows te1.size (rows.take i):=by
      have:=zhR (l:=0) (h:=i) (by omega) hwf
      simpa using this
     have D0:DRel tab w true (.sl (ρ.t 9)) (.slice (some ⟨b,off,none⟩) i c) (.list (rows.take i)) (rowF b off c i te1.size fun _ _=>Emp) :=
      DRel.ofCells H.h9 hsz (by rw[List.length_take];omega) (by omega) hwt (fun q j hq hj=>hcell q j (by omega) hj) (fun q j ck hq hj=>by
       have:=zbX (k:=te1.size) (l:=0) (h:=i) (rows:=rows) (i:=q) (j:=j) (by omega)
       simp only[List.drop_zero,Nat.zero_add]at this
       rw[this];exact r0 q j ck (by omega) hj) hown
     obtain⟨zs,hzs⟩:=H.hz
     obtain⟨ti3,h31,h32⟩:=H.h3
     obtain⟨inf,z,i1,i2,i3,i4,i5,i6⟩:=(H.hT _ te1 H.h9).inf
     obtain⟨zc,zl⟩:=zfU (ρ:=fun _=>.hole) H.hT hzs hsz i5
     obtain⟨a',c',w1,F',q1,q2,q3,q4,q5⟩:=zhy (P:=P) (ty:=ρ.t 24) (k:=.i64) (n2:=n+1-i) H.hT H.h24 H.d24 h31 h32 H.h9 hk0 H.b0 D0 ⟨inf,i1,i4⟩ zl zc (by rw[hsum];exact hlim)
     obtain⟨g1,rfl⟩:=q5 hcn
     rw[hsum]at q1 q3
     have hl1:(rows.take i).length=i:=by rw[List.length_take];omega
     obtain⟨zr,hzr⟩:∃zr,den (fun _=>T.hole) (rowE te1.size zs)=zr:=⟨_,rfl⟩
     rw[hzr]at q3
     have hcc:=q3.header.2.1
     cases q3 with
     | @sl et3 te3 rows3 _ n3 c3 B O vs3 Fs3 F3 hte3 hsz3 hn3 hc3 ha3 hwf3 hcell3 hrel3 hown3 hdis3 hdr3 hF3 =>
     have e3:te3=te1:=by rw[H.h9]at hte3;exact (Option.some.inj hte3).symm
     rw[e3]at hcell3 hrel3 hown3
     have hB:=ha3.resolve_right (by omega)
     obtain⟨hB1,hO1⟩:w.heap.size=B/\0=O:=by simpa using hB
     subst hO1
     have hown3:=hown3 rfl
     rw[hK]at hcell3 hown3
     simp only[Nat.zero_add]at hcell3 hown3
     have hcK:(n+1)*K<=c'*K:=Nat.mul_le_mul_right _ hcc
     have hvlt:vb<w.heap.size:=by
      have h1:=hcell1 0 0 (by omega) (by omega)
      exact zbA h1
     have hblt:b<w.heap.size:=by
      have h1:=hcell 0 0 (by omega) (by omega)
      exact zbA h1
     have old:∀b' x,b'<w.heap.size->cellAt w1 b' x=cellAt w b' x:=fun b' x hb=>(za8 (g1.blk b' hb)).1
     obtain⟨W2,s1,s2,s3,s4,s5,s6⟩:=zch (P:=P) (w:=w1) H.hT (dT:=ρ.t 24) (sT:=ρ.t 24) t24 H.h9 (b:=B) (o:=i*K) (dLen:=n+1-i) (b2:=vb) (o2:=voff) (sLen:=1) (m:=1)
      (us:=fun q=>us 0 q) (by simp only[Nat.min_def];split<;>omega) (fun q hq=>by
       rw[hK,Nat.one_mul]at hq
       have h1:=hcell1 0 q (by omega) (by omega)
       rw[Nat.zero_mul,Nat.add_zero]at h1
       rw[old vb _ hvlt];exact h1) (fun q hq=>by rw[hK,Nat.one_mul]at hq;exact one1 q hq) (fun x hx=>by
       rw[hK,Nat.one_mul]at hx
       exact hown3 (i*K+x) (by omega))
     rw[hK,Nat.one_mul]at s2 s3 s4
     obtain⟨W3,p1,p2,p3,p4,p5,p6⟩:=zch (P:=P) (w:=W2.drew) H.hT (dT:=ρ.t 24) (sT:=ρ.t 24) t24 H.h9 (b:=B) (o:=(i+1)*K) (dLen:=n-i) (b2:=b) (o2:=off+i*K) (sLen:=n-i) (m:=n-i)
      (us:=fun q=>vs (i+q / K) (q%K)) (by simp only[Nat.min_def];split<;>omega) (fun q hq=>by
       rw[hK]at hq
       obtain⟨g1,g2,g3⟩:=zaN (by omega) hq
       have:=hcell (i+q / K) (q%K) (by omega) (by omega)
       rw[hK]at this
       show cellAt W2 b _=_
       rw[s4 b _ (by omega),old b _ hblt,<- this];congr 1
       rw[Nat.add_mul];omega) (fun q hq=>by
       rw[hK]at hq
       obtain⟨g1,g2,g3⟩:=zaN (by omega) hq
       exact one0 _ _ (by omega) g2) (fun x hx=>by
       rw[hK]at hx
       obtain⟨v,v1,v2⟩:=hown3 ((i+1)*K+x) (by omega)
       exact⟨v,by show cellAt W2 B _=_;rw[s4 B _ (by omega)];exact v1,(s5 B ((i+1)*K+x)).trans v2⟩)
     rw[hK]at p2 p3 p4
     refine⟨some ⟨w.heap.size,0,none⟩,c',W3,rowF B 0 c' (n+1) te1.size fun _ _=>Emp,zkf H.mixed hf H.t3 H.t4 t24 H.a3 H.a4 H.a24 H.z3 H.z24 z9' b off n c i vb voff vc w.heap.size c' w w1 W2 W3 hi' hnc (by omega) (by omega) hcc ?_ ?_ ?_,?_,?_,?_⟩
     · intro ty
       have e:(n:Int)+1-(i:Int)=((n+1-i:Nat):Int):=by omega
       rw[e];exact q1
     ·intro ty dc;rw[hB1];exact s1 ty dc vc
     · intro ty dc sc
       rw[hB1]
       exact (p1 ty dc sc).trans (by rw[show ((n-i:Nat):Int)=(n:Int)-(i:Int) by omega])
     · refine (((g1.turned F0).after s2 ?_).trans ((Grows.drew W2).turned F0)).after p2 ?_
       ·rintro b' x ⟨rfl,_,_⟩;exact .inr (by omega)
       ·rintro b' x ⟨rfl,_,_⟩;exact .inr (by omega)
     · rw[hB1]
       refine zir (vs:=fun q j=>if q<i then vs3 q j else vs q j) H.h9 hsz hwf hwf1 hn hn1 hi hcc (fun q j ck hq hj=>?_) r1 (fun q j hq hj=>?_) fun x hx=>?_
       · by_cases c1:q<i
         · simp only[c1,if_true]
           have h1:=(hrel3 q j ck (by omega) hj).flat (hfl ck (List.mem_of_getElem? hj))
           rw[za6 (by omega)]at h1
           have:=zbX (k:=te1.size) (l:=0) (h:=i) (rows:=rows) (i:=q) (j:=j) (by omega)
           simp only[List.drop_zero,Nat.zero_add]at this
           rw[this]at h1
           exact h1.frame fun _ _ h=>h.elim
         ·simp only[c1,if_false];exact r0 q j ck hq hj
       · rw[hK]at hj ⊢
         rw[Nat.zero_add]
         by_cases c1:q<i
         · simp only[c1,if_true]
           have hle:q*K+K<=i*K:=by
            have:=Nat.mul_le_mul_right K (show q+1<=i by omega)
            rwa[Nat.add_mul,Nat.one_mul]at this
           rw[p4 B _ (by omega)]
           show cellAt W2 B _=_
           rw[s4 B _ (by omega)]
           exact hcell3 q j (by omega) hj
         · simp only[c1,if_false]
           by_cases c2:q=i
           · subst c2
             simp only[if_true]
             rw[p4 B _ (by omega)]
             exact s3 j hj
           · simp only[c2,if_false]
             obtain⟨r,rfl⟩:∃r,q=i+1+r:=⟨q-i-1,by omega⟩
             have e1:(i+1+r)*K=(i+1)*K+r*K:=Nat.add_mul ..
             have hrK:r*K+K<=(n-i)*K:=by
              have:=Nat.mul_le_mul_right K (show r+1<=n-i by omega)
              rwa[Nat.add_mul,Nat.one_mul]at this
             rw[e1]
             have:=p3 (r*K+j) (by omega)
             rw[show (i+1)*K+r*K+j=(i+1)*K+(r*K+j) by omega,this]
             have d1:(r*K+j) / K=r:=by
              rw[Nat.mul_comm,Nat.mul_add_div (by omega),Nat.div_eq_of_lt hj,Nat.add_zero]
             have d2:(r*K+j)%K=j:=by
              rw[Nat.mul_comm,Nat.mul_add_mod,Nat.mod_eq_of_lt hj]
             rw[d1,d2,show i+1+r-1=i+r by omega,if_neg (by omega)]
       · rw[hK]at hx
         rw[Nat.zero_add]
         obtain⟨v,v1,v2⟩:=hown3 x hx
         obtain⟨u,hu⟩:∃v,cellAt W3 B x=some v:=by
          by_cases c2:(i+1)*K<=x/\x<(i+1)*K+(n-i)*K
          · have:=p3 (x-(i+1)*K) (by omega)
            rw[show (i+1)*K+(x-(i+1)*K)=x by omega]at this
            exact⟨_,this⟩
          · rw[p4 B _ (by omega)]
            show ∃v,cellAt W2 B x=some v
            by_cases c1:i*K<=x/\x<i*K+K
            · have:=s3 (x-i*K) (by omega)
              rw[show i*K+(x-i*K)=x by omega]at this
              exact⟨_,this⟩
            ·rw[s4 B _ (by omega)];exact⟨v,v1⟩
         exact⟨u,hu,by rw[p5];show frozenAt W2 B x=false;rw[s5];exact v2⟩
     · intro b' x hx
       rw[zid]at hx
       obtain⟨rfl,x1,x2⟩:=hx
       exact .inr (by omega)
end
end Gp
