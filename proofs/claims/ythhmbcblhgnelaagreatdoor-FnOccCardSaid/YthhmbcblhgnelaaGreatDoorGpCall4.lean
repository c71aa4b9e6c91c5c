import Derived.Test.YthhmbcblhgnelaaGreatDoorGpOp13
set_option linter.unusedVariables false
set_option linter.unusedSimpArgs false
namespace Gp
open Go
variable {tab:Tab}{Γ:Gam}{ρ:Env}{tm:Array Value}{w w':World}{C C':Ctx}{kn kn':Kn}{Wr:CS}{w0:World}
theorem Rel.takeV(h:Rel tab Γ ρ tm w C kn Wr w0){o par q x1 x2:Nat}{pd i d:Exp}{j:Nat}{et pet:TypeId}{ti:TI}(ho:Γ.obj o=some ([],.view par pd i j et d))(hd:isHoleE d=false)
 (hp:Γ.obj par=some ([],.row true pet pd)) (hti:tab.get pet=some ti) (hx1:ρ x1=den ρ (cellPut ti.size j pd i (holeE o))) (hx2:ρ x2=den ρ d)
 (hn1:¬kn.v x1) (hn2:¬kn.v x2) (hne:x1≠x2) (hq:¬kn.o q) (hop:o≠par) :
 ∃ C', Rel tab (((Γ.setOb par ([], .row true pet (.var x1))).setOb o ([], .row true et (.var x2))).setOb q ([], .view par (.var x1) i j et (holeE o))) ρ tm w C' (((kn.addV x1).addV x2).addO q) Wr w0 /\
   (∀o',kn.o o'->C'.A o'=C.A o'/\C'.N o'=C.N o'/\C'.K o'=C.K o')/\C'.A q=C.A o/\C'.N q=C.N o/\C'.K q=C.K o:=by
 obtain⟨hko,_,hvr⟩:=h.obs o [] _ ho
 obtain⟨hkp,hvp,hpr⟩:=h.obs par [] _ hp
 have hkq:q≠o:=fun e=>hq (e▸hko)
 have hkqp:q≠par:=fun e=>hq (e▸hkp)
 obtain⟨m,b,base,rows,a1,a2,a3,a4,a5,⟨ti',t1,t2⟩,a8⟩:=hvr trivial [] pet hp trivial
 obtain⟨rs,a5,a6,a7⟩:=a5.resolve_left (fun⟨o0,c,_⟩=>by rw[c]at hd;cases hd)
 rw[hti]at t1;cases t1
 have hsz:tab.sz pet=ti.size:=by simp[Tab.sz,hti]
 rw[hsz]at a7 a8
 obtain⟨rows',r1,r2⟩:=hpr trivial
 rw[a4]at r1;cases r1
 rw[a3]at r2
 obtain⟨v,Fn,Fr,k1,k2,k3,k4,k5,k6⟩:=r2.take hti a2 t2
 rw[k1]at a8;cases a8
 rw[a7]at k2
 have hdisP:∀o' g' ob'',o'≠par->Γ.obj o'=some (g',ob'')->holdsG ρ g'->ob''.isView=false->Disj (C.F par) (C.F o') :=
  fun o' g' ob'' hne' ho' hg' hv'=>h.dis par o' [] g' _ ob'' hp ho' trivial hg' (Ne.symm hne') rfl hv'
 have hownP:=h.own par [] _ hp trivial rfl
 -- the parent, with a hole
 have s1:=h.re (g:=[]) (ob':=.row true pet (.var x1)) (F':=Fr) (kn':=kn.addV x1) hkp ⟨fun _=>id,fun _=>.inl⟩ ⟨x1,rfl,.inr rfl⟩
  (fun et' x e=>by cases e;exact hn1)
  (fun _=>by
   refine⟨_,(hx1.trans (zbv a4 a1)),?_⟩
   rw[Ctx.set_self.1,Ctx.set_self.2.1,Ctx.set_self.2.2.1,Ctx.set_self.2.2.2,a3,zjL]
   exact k6)
  (fun _ _ o' g' ob'' hne' ho' hg' hv' _=>(hdisP o' g' ob'' hne' ho' hg' hv').sub k5 (Sub.refl _))
  (fun _ _ b x hf=>hownP b x (k5 b x hf))
 -- the row itself
 have eo:∀{F:CS},(C.set par (C.A par) (C.N par) (C.K par) F).A o=C.A o/\(C.set par (C.A par) (C.N par) (C.K par) F).N o=C.N o/\(C.set par (C.A par) (C.N par) (C.K par) F).K o=C.K o :=
  ⟨(Ctx.set_ne hop).1,(Ctx.set_ne hop).2.1,(Ctx.set_ne hop).2.2.1⟩
 have s2:=s1.re (o:=o) (g:=[]) (ob':=.row true et (.var x2)) (F':=Fn) (kn':=(kn.addV x1).addV x2) hko ⟨fun _=>id,fun _=>.inl⟩ ⟨x2,rfl,.inr rfl⟩
  (fun et' x e hk=>by
   cases e
   rcases hk with hk|hk
   ·exact hn2 hk
   ·exact hne hk.symm)
  (fun _=>by
   refine⟨rs,hx2.trans a5,?_⟩
   rw[Ctx.set_self.1,Ctx.set_self.2.1,Ctx.set_self.2.2.1,Ctx.set_self.2.2.2,eo.1,eo.2.1,eo.2.2]
   exact k2)
  (fun _ _ o' g' ob'' hne' ho' hg' hv' _=>by
   by_cases e:o'=par
   · subst e
     rw[Ctx.set_self.2.2.2];exact k3
   · rw[Gam.obj_setOb_ne _ _ (Ne.symm e)]at ho'
     rw[(Ctx.set_ne e).2.2.2]
     exact (hdisP o' g' ob'' e ho' hg' hv').sub k4 (Sub.refl _))
  (fun _ _ b x hf=>hownP b x (k4 b x hf))
 -- the tie
 have s3:=s2.addOb (o:=q) (g:=[]) (ob:=.view par (.var x1) i j et (holeE o)) (A:=C.A o) (N:=C.N o) (K:=C.K o) (F:=Emp) (show ¬kn.o q from hq) ⟨hkp,x1,rfl,.inl (.inr rfl)⟩
  (fun _=>by
   intro gp pet' hp' _
   rw[Gam.obj_setOb_ne _ _ hkqp,Gam.obj_setOb_ne _ _ hop,Gam.obj_setOb_self]at hp'
   cases hp'
   refine⟨m,b,base,_,a1,?_,?_,hx1.trans (zbv a4 a1),.inl ⟨o,rfl,.inl hko,?_,?_,?_⟩,⟨ti,hti,t2⟩,?_⟩
   ·rw[(Ctx.set_ne (Ne.symm hkqp)).2.1,(Ctx.set_ne (Ne.symm hop)).2.1,Ctx.set_self.2.1];exact a2
   ·rw[(Ctx.set_ne (Ne.symm hkqp)).1,(Ctx.set_ne (Ne.symm hop)).1,Ctx.set_self.1];exact a3
   ·rw[Ctx.set_self.1,(Ctx.set_ne (Ne.symm hkq)).1,Ctx.set_self.1];exact eo.1.symm
   ·rw[Ctx.set_self.2.1,(Ctx.set_ne (Ne.symm hkq)).2.1,Ctx.set_self.2.1];exact eo.2.1.symm
   ·rw[Ctx.set_self.2.2.1,(Ctx.set_ne (Ne.symm hkq)).2.2.1,Ctx.set_self.2.2.1];exact eo.2.2.symm
   ·rw[Ctx.set_self.1,Ctx.set_self.2.1,Ctx.set_self.2.2.1,hsz];exact k1)
  (fun _ hh=>by cases hh) (fun _ hh=>by cases hh) (fun _ hh=>by cases hh)
 refine⟨_,s3,fun o' ho'=>?_,?_,?_,?_⟩
 · have e1:o'≠q:=fun e=>hq (e▸ho')
   rw[(Ctx.set_ne e1).1,(Ctx.set_ne e1).2.1,(Ctx.set_ne e1).2.2.1]
   by_cases e2:o'=o
   · subst e2
     rw[Ctx.set_self.1,Ctx.set_self.2.1,Ctx.set_self.2.2.1];exact eo
   · rw[(Ctx.set_ne e2).1,(Ctx.set_ne e2).2.1,(Ctx.set_ne e2).2.2.1]
     by_cases e3:o'=par
     ·subst e3;exact⟨Ctx.set_self.1,Ctx.set_self.2.1,Ctx.set_self.2.2.1⟩
     ·exact⟨(Ctx.set_ne e3).1,(Ctx.set_ne e3).2.1,(Ctx.set_ne e3).2.2.1⟩
 ·exact Ctx.set_self.1
 ·exact Ctx.set_self.2.1
 ·exact Ctx.set_self.2.2.1
theorem Rel.putV(h:Rel tab Γ ρ tm w C kn Wr w0){o par q x:Nat}{pd i d2:Exp}{j:Nat}{et pet:TypeId}{ti:TI}(hq:Γ.obj q=some ([],.view par pd i j et (holeE o)))
 (hp:Γ.obj par=some ([],.row true pet pd)) (ho:Γ.obj o=some ([],.row true et d2)) (hti:tab.get pet=some ti) (hx:ρ x=den ρ (cellPut ti.size j pd i d2))
 (hn:¬kn.v x) (hop:o≠par) (hoq:o≠q) (hqp:q≠par) :
 ∃ C', Rel tab ((((Γ.delOb q).delOb o).setOb par ([], .row true pet (.var x))).setOb o ([], .view par (.var x) i j et d2)) ρ tm w C' (kn.addV x) Wr w0 /\
   (∀o',C'.A o'=C.A o'/\C'.N o'=C.N o'/\C'.K o'=C.K o'):=by
 obtain⟨hkq,_,hqr⟩:=h.obs q [] _ hq
 obtain⟨hkp,hvp,hpr⟩:=h.obs par [] _ hp
 obtain⟨hko,hvo,hor⟩:=h.obs o [] _ ho
 obtain⟨m,b,base,rows,a1,a2,a3,a4,a5,⟨ti',t1,t2⟩,a8⟩:=hqr trivial [] pet hp trivial
 obtain⟨hA,hN,hK⟩:C.A q=C.A o/\C.N q=C.N o/\C.K q=C.K o:=by
  rcases a5 with⟨o0,c1,_,c3⟩|⟨rs,c1,_⟩
  · have:o=o0:=by injection c1 with c1 _;injection c1
    subst this;exact c3
  ·cases c1
 rw[hti]at t1;cases t1
 have hsz:tab.sz pet=ti.size:=by simp[Tab.sz,hti]
 rw[hsz,hA,hN,hK]at a8
 obtain⟨rows',r1,r2⟩:=hpr trivial
 rw[a4]at r1;cases r1
 rw[a3]at r2
 obtain⟨rs,e1,e2⟩:=hor trivial
 have hdj:Disj (C.F par) (C.F o):=h.dis par o [] [] _ _ hp ho trivial trivial (Ne.symm hop) rfl rfl
 obtain⟨F2,f1,f2⟩:=r2.put (w':=w) hti a2 t2 a8 rfl (fun _ _ _ _=>⟨rfl,rfl⟩) e2 hdj
 have hwf:=r2
 have hcell:cellT ti.size (setT ti.size rows m j (.list rs)) m j = .list rs:=by
  cases r2 with
  | @sl et ti' rows _ n c b' off' vs Fs F hti' hsz' hn' hc ha hwf hcell hrel hown hdis hdr hF =>
    rw[hti]at hti';cases hti'
    refine zb9 (by omega) ?_ hwf
    have:=List.getD_some_lt t2
    rw[hsz'];exact this
 have hrs:rs.length=C.N o:=by
  cases e2 with
  |sl hti' hsz' hn'=>exact hn'
 -- without the row and the tie
 have d1:=(h.delOb q).delOb o
 have hobj:∀o' g' ob'',((Γ.delOb q).delOb o).obj o'=some (g',ob'')->o'≠q/\o'≠o/\Γ.obj o'=some (g',ob''):=by
  intro o' g' ob'' h'
  have n1:o'≠o:=fun e=>by subst e;rw[Gam.obj_delOb_self]at h';cases h'
  rw[Gam.obj_delOb_ne _ (Ne.symm n1)]at h'
  have n2:o'≠q:=fun e=>by subst e;rw[Gam.obj_delOb_self]at h';cases h'
  rw[Gam.obj_delOb_ne _ (Ne.symm n2)]at h'
  exact⟨n2,n1,h'⟩
 have s1:=d1.re (o:=par) (g:=[]) (ob':=.row true pet (.var x)) (F':=F2) (kn':=kn.addV x) hkp ⟨fun _=>id,fun _=>.inl⟩ ⟨x,rfl,.inr rfl⟩
  (fun et' y e=>by cases e;exact hn)
  (fun _=>by
   refine⟨_,(hx.trans (zbv a4 a1)),?_⟩
   rw[Ctx.set_self.1,Ctx.set_self.2.1,Ctx.set_self.2.2.1,Ctx.set_self.2.2.2,a3,e1]
   exact f2)
  (fun _ _ o' g' ob'' hne' ho' hg' hv' _=>by
   obtain⟨n1,n2,n3⟩:=hobj o' g' ob'' ho'
   have q1:=h.dis par o' [] g' _ ob'' hp n3 trivial hg' (Ne.symm hne') rfl hv'
   have q2:=h.dis o o' [] g' _ ob'' ho n3 trivial hg' (Ne.symm n2) rfl hv'
   intro b x hf hf'
   exact (f1 b x hf).elim (fun z=>q1 b x z hf') (fun z=>q2 b x z hf'))
  (fun _ _ b x hf=>(f1 b x hf).elim (h.own par [] _ hp trivial rfl b x) (h.own o [] _ ho trivial rfl b x))
 have eo:∀o' {F:CS},(C.set par (C.A par) (C.N par) (C.K par) F).A o'=C.A o'/\(C.set par (C.A par) (C.N par) (C.K par) F).N o'=C.N o'/\(C.set par (C.A par) (C.N par) (C.K par) F).K o'=C.K o':=by
  intro o' F
  by_cases e:o'=par
  ·subst e;exact⟨Ctx.set_self.1,Ctx.set_self.2.1,Ctx.set_self.2.2.1⟩
  ·exact⟨(Ctx.set_ne e).1,(Ctx.set_ne e).2.1,(Ctx.set_ne e).2.2.1⟩
 have s2:=s1.re (o:=o) (g:=[]) (ob':=.view par (.var x) i j et d2) (F':=Emp) (kn':=kn.addV x) hko (Kn.le.refl _) ⟨hkp,x,rfl,.inr rfl⟩
  (fun et' y e=>by cases e)
  (fun _=>by
   intro gp pet' hp' _
   rw[Gam.obj_setOb_ne _ _ hop,Gam.obj_setOb_self]at hp'
   cases hp'
   refine⟨m,b,base,_,a1,?_,?_,hx.trans (zbv a4 a1),.inr ⟨rs,e1,?_,?_⟩,⟨ti,hti,t2⟩,?_⟩
   ·rw[(Ctx.set_ne (Ne.symm hop)).2.1,(eo par).2.1];exact a2
   ·rw[(Ctx.set_ne (Ne.symm hop)).1,(eo par).1];exact a3
   ·rw[Ctx.set_self.2.1,(eo o).2.1];exact hrs
   ·rw[hsz,e1];exact hcell
   ·rw[Ctx.set_self.1,Ctx.set_self.2.1,Ctx.set_self.2.2.1,(eo o).1,(eo o).2.1,(eo o).2.2,hsz];exact a8)
  (fun _ hh=>by cases hh) (fun _ hh=>by cases hh)
 refine⟨_,s2,fun o'=>?_⟩
 by_cases e:o'=o
 · subst e
   rw[Ctx.set_self.1,Ctx.set_self.2.1,Ctx.set_self.2.2.1];exact eo _
 ·rw[(Ctx.set_ne e).1,(Ctx.set_ne e).2.1,(Ctx.set_ne e).2.2.1];exact eo _
end Gp
namespace Gp
open Go
inductive Ref where
 |sl (o:Nat) (off len:Exp)
 |nil
 |bx (o:Nat)
 |mp (o:Nat)
 deriving DecidableEq,Repr,Inhabited
structure Acc where
 th:List (Nat × Ref)
 sg:List (Nat × Exp)
 deriving Repr,Inhabited
def bindV (x:Nat)(e:Exp)(a:Acc):Option Acc :=
 match look x a.sg with
 |some e'=>if e=e' then some a else none
 |none=>some { a with sg:=(x,e)::a.sg }
def mExp (nb:Nat)(e' e:Exp)(a:Acc):Option Acc :=
 match e' with
 |.var x=>if Nat.ble nb x then bindV x e a else if e'=e then some a else none
 |e'=>if e'=e&&e'.bnd nb then some a else none
def isWhole (d off len:Exp):Bool:=off == .int 0&&len == .un .len d
abbrev Obs:=List (Nat × Obj)
def mSl (tab : Tab) (Γ : Gam) (G : Grd) (nb : Nat) (obs : Obs) (o' : Nat) (et : TypeId) (off' len' : Exp) (o : Nat) (et2 : TypeId) (off len : Exp) (a : Acc) : Option Acc :=
 if et = et2 then
  match look o' obs with
  | some (.row dp et' (.var x)) =>
    if et' = et then
     match rowOf Γ G o,tab.get et with
     | some (dps, et3, d, vw), some _ =>
       if et3 = et then
        match look o' a.th with
        | none => if off' = .int 0 && len' = .un .len (.var x) && (!dp || (dps && !vw)) then
         (mExp nb (.var x) (extE d off len) a).map fun a=>{ a with th:=(o',.sl o off len)::a.th }
          else none
        | some (.sl o2 off2 len2) => if o2 = o then
         if off2=off&&len2=len&&off' = .int 0&&len' = .un .len (.var x) then some a
         else if isWhole d off2 len2 then (mExp nb off' off a).bind fun a=>mExp nb len' len a else none
          else none
        |_=>none
       else none
     |_,_=>none
    else none
  |_=>none
 else none
def mSlW (tab : Tab) (Γ : Gam) (G : Grd) (nb : Nat) (obs : Obs) (o' : Nat) (et : TypeId) (off' len' : Exp) (o : Nat) (et2 : TypeId) (off len : Exp) (a : Acc) : Option Acc :=
 match look o' a.th,look o' obs with
 | none, some (.row _ _ (.var x)) =>
   if off' = .int 0&&len' = .un .len (.var x) then mSl tab Γ G nb obs o' et off' len' o et2 off len a
   else match rowOf Γ G o with
    | some (_, et3, d, _) => match mSl tab Γ G nb obs o' et (.int 0) (.un .len (.var x)) o et3 (.int 0) (.un .len d) a with
      |some a1=>mSl tab Γ G nb obs o' et off' len' o et2 off len a1
      |none=>none
    |none=>none
 |_,_=>mSl tab Γ G nb obs o' et off' len' o et2 off len a
def mNil (tab : Tab) (nb : Nat) (obs : Obs) (o' : Nat) (et : TypeId) (off' len' : Exp) (a : Acc) : Option Acc :=
 match look o' obs with
 | some (.row _ et' (.var x)) =>
   if et'=et&&Nat.ble nb x&&off' = .int 0&&len' = .un .len (.var x)&&(tab.get et).isSome then
    match look o' a.th with
    |none=>(bindV x .nil a).map fun a=>{ a with th:=(o',.nil)::a.th }
    |some .nil=>some a
    |_=>none
   else none
 |_=>none
def mSlw (tab:Tab)(Γ:Gam)(G:Grd)(nb:Nat)(obs:Obs)(o':Nat)(et:TypeId)(l:Leaf)(a:Acc):Option Acc :=
 match look o' obs,l with
 |some (.row _ _ (.var x)),.sl o et2 off len=>mSlW tab Γ G nb obs o' et (.int 0) (.un .len (.var x)) o et2 off len a
 |some (.row _ _ (.var x)),.nil=>mNil tab nb obs o' et (.int 0) (.un .len (.var x)) a
 |_,_=>none
def mMap (Γ : Gam) (G : Grd) (nb : Nat) (obs : Obs) (o' o : Nat) (a : Acc) : Option Acc :=
 match look o' a.th with
 |some (.mp o2)=>if o2=o then some a else none
 |some _=>none
 | none => match look o' obs, Γ.obj o with
   | some (.map k' v' (.var x)), some (g, .map k v d) => if impl G g && k' = k && v' = v then
    (mExp nb (.var x) d a).map fun a=>{ a with th:=(o',.mp o)::a.th }
     else none
   |_,_=>none
def mPeB (tab:Tab)(Γ:Gam)(G:Grd)(nb:Nat)(obs:Obs)(o' o:Nat)(a:Acc):Option Acc :=
 match look o' a.th with
 |some _=>some a
 | none => match look o' obs, rowOf Γ G o with
   |some (.row _ _ (.var x)),some (_,et3,d,_)=>mSl tab Γ G nb obs o' et3 (.int 0) (.un .len (.var x)) o et3 (.int 0) (.un .len d) a
   |_,_=>none
mutual
def mLeaf (tab : Tab) (Γ : Gam) (G : Grd) (nb : Nat) (obs : Obs) : Nat -> Leaf -> Leaf -> Acc -> Option Acc
 |0,_,_,_=>none
 | fuel + 1, l', l, a =>
   match l',normLeaf Γ G l with
   |.dead,_=>some a
   |.int k e',.int k2 e=>if k=k2 then mExp nb e' e a else none
   |.bool e',.bool e=>mExp nb e' e a
   |.str e',.str e=>mExp nb e' e a
   |.nil,.nil=>some a
   |.sl o' et off' len',.sl o et2 off len=>mSlW tab Γ G nb obs o' et off' len' o et2 off len a
   |.sl o' et off' len',.nil=>mNil tab nb obs o' et off' len' a
   |.pb o' j',.pb o j=>if j'=j then mBox tab Γ G nb obs fuel o' o a else none
   | .pe o' et i' j', .pe o et2 i j => if et = et2 && j' = j then
    match mPeB tab Γ G nb obs o' o a with
    | some a1 => match look o' a1.th, rowOf Γ G o with
      |some (.sl o2 off2 len2),some (_,_,d,_)=>if o2=o&&isWhole d off2 len2 then mExp nb i' i a1 else none
      |_,_=>none
    |none=>none
     else none
   |.slw o' et,l=>mSlw tab Γ G nb obs o' et l a
   |.fn f caps',.fn f2 caps=>if f=f2&&caps'.length=caps.length then mCaps tab Γ G nb obs fuel caps' caps a else none
   |.mp o',.mp o=>mMap Γ G nb obs o' o a
   |_,_=>none
def mBox (tab:Tab)(Γ:Gam)(G:Grd)(nb:Nat)(obs:Obs):Nat->Nat->Nat->Acc->Option Acc
 |0,_,_,_=>none
 | fuel + 1, o', o, a =>
   match look o' a.th with
   |some (.bx o2)=>if o2=o then some a else none
   |some _=>none
   | none =>
     match look o' obs,Γ.obj o with
     | some (.box rw cells'), some (g, .box rwc cells) => if impl G g && (!rw || rwc) && cells'.length = cells.length then
      match mLeaves tab Γ G nb obs fuel cells' cells a with
      | some a => match look o' a.th with
        |none=>some { a with th:=(o',.bx o)::a.th }
        |some _=>none
      |none=>none
       else none
     |_,_=>none
def mLeaves (tab:Tab)(Γ:Gam)(G:Grd)(nb:Nat)(obs:Obs):Nat->List Leaf->List Leaf->Acc->Option Acc
 |0,_,_,_=>none
 |fuel+1,[],[],a=>some a
 | fuel + 1, l' :: ls', l :: ls, a => match mLeaf tab Γ G nb obs fuel l' l a with
   |some a=>mLeaves tab Γ G nb obs fuel ls' ls a
   |none=>none
 |_,_,_,_=>none
def mCaps (tab:Tab)(Γ:Gam)(G:Grd)(nb:Nat)(obs:Obs):Nat->List Nat->List Nat->Acc->Option Acc
 |0,_,_,_=>none
 |fuel+1,[],[],a=>some a
 | fuel + 1, c' :: cs', c :: cs, a => match mBox tab Γ G nb obs fuel c' c a with
   |some a=>mCaps tab Γ G nb obs fuel cs' cs a
   |none=>none
 |_,_,_,_=>none
end
structure Acc.le(a b:Acc):Prop where
 th:∀o r,look o a.th=some r->look o b.th=some r
 sg:∀x e,look x a.sg=some e->look x b.sg=some e
theorem Acc.le.refl(a:Acc):a.le a:=⟨fun _ _=>id,fun _ _=>id⟩
theorem Acc.le.trans{a b c:Acc}(h:a.le b)(k:b.le c):a.le c:=⟨fun o r x=>k.th o r (h.th o r x),fun o r x=>k.sg o r (h.sg o r x)⟩
theorem zaj {α:Type}{k k':Nat}{x:α}{l:List (Nat × α)}(h:k'≠k):look k ((k',x)::l)=look k l:=by
 simp only[look];rw[if_neg (by simpa using h)]
theorem zag {α:Type}{k:Nat}{x:α}{l:List (Nat × α)}:look k ((k,x)::l)=some x:=by simp[look]
section
variable {tab:Tab}{Γ:Gam}{ρ ρ':Env}{tm:Array Value}{w w':World}{C:Ctx}{kn:Kn}{Wr:CS}{w0:World}{P:Program}{G:Grd}{nb:Nat}{obs:Obs}
theorem zdw {x:Nat}{e:Exp}{a b:Acc}(h:bindV x e a=some b):a.le b/\b.th=a.th/\look x b.sg=some e:=by
 unfold bindV at h
 split at h
 · rename_i e' he
   split at h
   ·rename_i hh;subst hh;cases h;exact⟨Acc.le.refl _,rfl,he⟩
   ·cases h
 · rename_i hn
   cases h
   refine⟨⟨fun _ _=>id,fun y e' hy=>?_⟩,rfl,zag⟩
   by_cases hxy:x=y
   ·subst hxy;rw[hn]at hy;cases hy
   ·rw[zaj hxy];exact hy
theorem zav {e' e:Exp}{a b:Acc}(h:mExp nb e' e a=some b):a.le b/\b.th=a.th/\∀ρ ρ':Env,(∀x e,look x b.sg=some e->ρ' x=den ρ e)->(∀x,x<nb->ρ' x=ρ x)->den ρ' e'=den ρ e:=by
 unfold mExp at h
 split at h
 · rename_i x
   split at h
   · obtain⟨h1,h2,h3⟩:=zdw h
     exact⟨h1,h2,fun ρ ρ' hs _=>hs x e h3⟩
   · rename_i hle
     split at h
     · rename_i hh;cases h;subst hh
       exact⟨Acc.le.refl _,rfl,fun ρ ρ' _ ha=>ha x (by have:¬nb<=x:=fun hx=>hle (Nat.ble_eq_true_of_le hx);omega)⟩
     ·cases h
 · split at h
   · rename_i hh
     simp only[Bool.and_eq_true,decide_eq_true_eq]at hh
     obtain⟨h1,h2⟩:=hh
     cases h;subst h1
     exact⟨Acc.le.refl _,rfl,fun ρ ρ' _ ha=>zai (n:=nb) (fun x hx=>ha x hx) _ h2⟩
   ·cases h
def Bound (tab:Tab)(Γ:Gam)(ρ ρ':Env)(w:World)(C C':Ctx)(k':Nat->Prop)(o':Nat)(ob':Obj):Ref->Prop
 |.sl o off len=>∃(dp:Bool) (et:TypeId) (x:Nat) (ti:TI) (rows:List T) (m n c:Nat) (root:Nat) (gr:Grd) (obr:Obj) (d:Exp),
  ob' = .row dp et (.var x)/\tab.get et=some ti/\ρ' x = .list rows/\DRel tab w dp (.sl et) (.slice (C'.A o') (C'.N o') (C'.K o')) (.list rows) (C'.F o') /\
  Γ.obj root=some (gr,obr)/\holdsG ρ gr/\obr.isView=false/\Sub (C'.F o') (C.F root)/\(root=o\/∃g pd i j et2 d2,Γ.obj o=some (g,.view root pd i j et2 d2)) /\
  (dp=true->root=o/\obr.owned=true)/\den ρ off = .int m/\den ρ len = .int n/\C'.N o'=n/\C'.K o'=c/\m+n<=C.N o/\n<=c/\m+c=C.K o /\
  (c=0\/∃b base,C.A o=some ⟨b,base,none⟩/\C'.A o'=some ⟨b,base+m*tab.sz et,none⟩) /\
  (∃dp2 vw,rowOf Γ G o=some (dp2,et,d,vw))/\(isWhole d off len=true->C'.A o'=C.A o/\C'.N o'=C.N o/\C'.K o'=C.K o)
 |.nil=>∃(dp:Bool) (et:TypeId) (x:Nat),ob' = .row dp et (.var x)/\ρ' x = .list []/\DRel tab w dp (.sl et) (.slice (C'.A o') (C'.N o') (C'.K o')) (.list []) (C'.F o')/\C'.F o'=Emp/\C'.A o'=none/\C'.N o'=0/\C'.K o'=0
 |.bx o=>∃rw rwc cells' cells g,ob' = .box rw cells'/\Γ.obj o=some (g,.box rwc cells)/\holdsG ρ g/\(rw=true->rwc=true)/\(C'.A o'=C.A o/\C'.N o'=C.N o/\C'.K o'=C.K o)/\C'.F o'=C.F o /\
  ObRel tab C' k' ρ' Γ w o' (.box rw cells')
 |.mp o=>∃k v x d g,ob' = .map k v (.var x)/\Γ.obj o=some (g,.map k v d)/\holdsG ρ g/\(C'.A o'=C.A o/\C'.N o'=C.N o/\C'.K o'=C.K o)/\C'.F o'=C.F o /\
  ObRel tab C' k' ρ' Γ w o' (.map k v (.var x))
def kOf (a:Acc):Nat->Prop:=fun o=>∃r,look o a.th=some r
def Inv (tab:Tab)(Γ:Gam)(G:Grd)(ρ ρ':Env)(w:World)(C:Ctx)(obs:Obs)(a:Acc)(C':Ctx):Prop :=
 ∀o' r,look o' a.th=some r->∃ob',look o' obs=some ob'/\Bound tab Γ ρ ρ' w (G:=G) C C' (kOf a) o' ob' r
def Alike (a:Acc)(C' C'':Ctx):Prop:=∀o r,look o a.th=some r->C''.A o=C'.A o/\C''.N o=C'.N o/\C''.K o=C'.K o/\C''.F o=C'.F o
theorem Alike.refl(a:Acc)(C':Ctx):Alike a C' C':=fun _ _ _=>⟨rfl,rfl,rfl,rfl⟩
theorem Alike.trans{a b:Acc}{C1 C2 C3:Ctx}(h:Alike a C1 C2)(hle:a.le b)(k:Alike b C2 C3):Alike a C1 C3:=fun o r x=>by
 obtain⟨h1,h2,h3,h4⟩:=h o r x
 obtain⟨k1,k2,k3,k4⟩:=k o r (hle.th o r x)
 exact⟨k1.trans h1,k2.trans h2,k3.trans h3,k4.trans h4⟩
theorem kOf.mono{a b:Acc}(h:a.le b):∀o,kOf a o->kOf b o:=fun o ⟨r,hr⟩=>⟨r,h.th o r hr⟩
theorem zf1 {a b:Acc}{C1 C2:Ctx}{l:Leaf}{v:Value}(h:LeafRel tab C1 (kOf a) ρ l v)(hle:a.le b)(hal:Alike a C1 C2):LeafRel tab C2 (kOf b) ρ l v :=
 h.mono (kOf.mono hle) fun o ⟨r,hr⟩=>⟨(hal o r hr).1,(hal o r hr).2.1,(hal o r hr).2.2.1⟩
theorem Bound.mono{a b:Acc}{C1 C2:Ctx}{o':Nat}{ob':Obj}{r:Ref}(hb:Bound tab Γ ρ ρ' w (G:=G) C C1 (kOf a) o' ob' r)(hr:look o' a.th=some r)(hle:a.le b)(hal:Alike a C1 C2):Bound tab Γ ρ ρ' w (G:=G) C C2 (kOf b) o' ob' r:=by
 obtain⟨e1,e2,e3,e4⟩:=hal o' r hr
 cases r with
 | sl o off len =>
   obtain⟨dp,et,x,ti,rows,m,n,c,root,gr,obr,d,h1⟩:=hb
   refine⟨dp,et,x,ti,rows,m,n,c,root,gr,obr,d,?_⟩
   rw[e1,e2,e3,e4];exact h1
 | nil =>
   obtain⟨dp,et,x,h1⟩:=hb
   refine⟨dp,et,x,?_⟩
   rw[e1,e2,e3,e4];exact h1
 | bx o =>
   obtain⟨rw',rwc,cells',cells,g,h1,h2,h3,h4,h5,h6,h7⟩:=hb
   refine⟨rw',rwc,cells',cells,g,h1,h2,h3,h4,by rw[e1,e2,e3];exact h5,by rw[e4];exact h6,?_⟩
   exact h7.mono (kOf.mono hle) ⟨_,hr⟩ (fun o ⟨r,hr⟩=>⟨(hal o r hr).1,(hal o r hr).2.1,(hal o r hr).2.2.1⟩) e4 fun _ _ _ _ _ _ he=>by cases he
 | mp o =>
   obtain⟨k,v,x,d,g,h1,h2,h3,h5,h6,h7⟩:=hb
   refine⟨k,v,x,d,g,h1,h2,h3,by rw[e1,e2,e3];exact h5,by rw[e4];exact h6,?_⟩
   exact h7.mono (kOf.mono hle) ⟨_,hr⟩ (fun o ⟨r,hr⟩=>⟨(hal o r hr).1,(hal o r hr).2.1,(hal o r hr).2.2.1⟩) e4 fun _ _ _ _ _ _ he=>by cases he
theorem Inv.mono{a b:Acc}{C1 C2:Ctx}(h:Inv tab Γ G ρ ρ' w C obs a C1)(hth:b.th=a.th)(hle:a.le b)(hal:Alike a C1 C2):Inv tab Γ G ρ ρ' w C obs b C2:=by
 intro o' r hr
 rw[hth]at hr
 obtain⟨ob',h1,h2⟩:=h o' r hr
 exact⟨ob',h1,h2.mono hr hle hal⟩
structure Step(tab:Tab)(Γ:Gam)(G:Grd)(ρ ρ':Env)(w:World)(C:Ctx)(obs:Obs)(a b:Acc)(C' C'':Ctx):Prop where
 le:a.le b
 alike:Alike a C' C''
 inv:Inv tab Γ G ρ ρ' w C obs b C''
theorem Step.trans{a b c:Acc}{C1 C2 C3:Ctx}(h:Step tab Γ G ρ ρ' w C obs a b C1 C2)(k:Step tab Γ G ρ ρ' w C obs b c C2 C3):Step tab Γ G ρ ρ' w C obs a c C1 C3 :=
 ⟨h.le.trans k.le,h.alike.trans h.le k.alike,k.inv⟩
theorem Step.same{a b:Acc}{C1:Ctx}(h:Inv tab Γ G ρ ρ' w C obs a C1)(hth:b.th=a.th)(hle:a.le b):Step tab Γ G ρ ρ' w C obs a b C1 C1 :=
 ⟨hle,Alike.refl _ _,h.mono hth hle (Alike.refl _ _)⟩
theorem Inv.add{a b:Acc}{C1:Ctx}(h:Inv tab Γ G ρ ρ' w C obs a C1){o':Nat}{r:Ref}(hn:look o' a.th=none)(hle:a.le b)(hth:b.th=(o',r)::a.th){A:Option Addr}{N K:Nat}{F:CS}{ob':Obj}(ho:look o' obs=some ob')
 (hb:Bound tab Γ ρ ρ' w (G:=G) C (C1.set o' A N K F) (kOf b) o' ob' r):Step tab Γ G ρ ρ' w C obs a b C1 (C1.set o' A N K F):=by
 have hne:∀x r,look x a.th=some r->x≠o':=fun x r hx e=>by subst e;rw[hn]at hx;cases hx
 have hal:Alike a C1 (C1.set o' A N K F):=fun x r hx=>Ctx.set_ne (hne x r hx)
 refine⟨hle,hal,fun x r2 hx=>?_⟩
 rw[hth]at hx
 by_cases e:o'=x
 · subst e
   rw[zag]at hx;cases hx
   exact⟨ob',ho,hb⟩
 · rw[zaj e]at hx
   obtain⟨ob2,h1,h2⟩:=h x r2 hx
   exact⟨ob2,h1,h2.mono hx hle hal⟩
theorem zf2 {o:Nat}{dp:Bool}{et:TypeId}{d:Exp}{vw:Bool}(h:Rel tab Γ ρ tm w C kn Wr w0)(hG:holdsG ρ G)(hr:rowOf Γ G o=some (dp,et,d,vw)) :
 ∃ rows F' root gr obr, den ρ d = .list rows /\ DRel tab w dp (.sl et) (.slice (C.A o) (C.N o) (C.K o)) (.list rows) F' /\ Γ.obj root = some (gr, obr) /\ holdsG ρ gr /\ obr.isView = false /\ Sub F' (C.F root) /\
   (root=o\/∃g pd i j et2 d2,Γ.obj o=some (g,.view root pd i j et2 d2))/\(vw=false->root=o/\obr = .row dp et d):=by
 have hs:=zaF h hG hr
 obtain⟨rows,F',root,gr,obr,h1,h2,h3,h4,h5,h6,h7⟩:=hs
 cases vw with
 |false=>exact⟨rows,F',root,gr,obr,h1,h2,h3,h4,h5,h6,.inl (h7 rfl).1,h7⟩
 | true =>
   -- a view: its parent is the root
   unfold rowOf at hr
   split at hr
   · split at hr
     ·cases hr
     ·cases hr
   · rename_i g par pd i j et' d' ho
     split at hr
     · rename_i hi
       simp only[Bool.and_eq_true,Bool.not_eq_true']at hi
       obtain⟨hi,hnh⟩:=hi
       split at hr
       · rename_i gp pet pd' hp
         split at hr
         · rename_i hc
           cases hr
           simp only[Bool.and_eq_true,beq_iff_eq]at hc
           obtain⟨hc1,hc2⟩:=hc
           subst hc2
           have hgp:=zax hc1 hG
           obtain⟨m,b,base,rows2,a1,a2,a3,a4,a5,⟨ti,t1,t2⟩,a8⟩:=(h.obs o g _ ho).2.2 (zax hi hG) gp pet hp hgp
           obtain⟨rs,a5,a6,a7⟩:=a5.resolve_left (fun⟨o0,c,_⟩=>by rw[c]at hnh;cases hnh)
           obtain⟨rows',r1,r2⟩:=(h.obs par gp _ hp).2.2 hgp
           rw[a4]at r1;cases r1
           rw[a3]at r2
           have hsz:tab.sz pet=ti.size:=by simp[Tab.sz,t1]
           obtain⟨v,F2,g1,g2,g3⟩:=r2.get t1 a2 t2
           rw[hsz]at a7 a8
           rw[g1]at a8;cases a8
           rw[a7]at g2
           rw[h1]at a5;cases a5
           exact⟨rows,F2,par,gp,_,h1,g2,hp,hgp,rfl,g3,.inr ⟨g,pd,i,j,et,d,ho⟩,fun h=>by cases h⟩
         ·cases hr
       ·cases hr
     ·cases hr
   ·cases hr
theorem zca (hT : TabOk P tab) (h : Rel tab Γ ρ tm w C kn Wr w0) (hG : holdsG ρ G) (hnb : ∀ x, x < nb -> ρ' x = ρ x) {o' : Nat} {et : TypeId} {off' len' : Exp} {o : Nat} {et2 : TypeId} {off len : Exp} {a b : Acc} {v : Value} {C' : Ctx}
 (hm:mSl tab Γ G nb obs o' et off' len' o et2 off len a=some b) (hl:LeafRel tab C kn.o ρ (.sl o et2 off len) v) (hinv:Inv tab Γ G ρ ρ' w C obs a C') (hs:∀x e,look x b.sg=some e->ρ' x=den ρ e) :
 ∃C'',Step tab Γ G ρ ρ' w C obs a b C' C''/\LeafRel tab C'' (kOf b) ρ' (.sl o' et off' len') v:=by
 unfold mSl at hm
 split at hm
 case isFalse=>cases hm
 rename_i he
 subst he
 split at hm
 case h_2=>cases hm
 rename_i dp et' x hobs
 split at hm
 case isFalse=>cases hm
 rename_i hc
 subst hc
 split at hm
 case h_2=>cases hm
 rename_i dps et3 d vw te hrow hte
 split at hm
 case isFalse=>cases hm
 rename_i he3
 subst he3
 obtain⟨rows,F1,root,gr,obr,r1,r2,r3,r4,r5,r6,r7,r8⟩:=zf2 h hG hrow
 split at hm
 · -- the first time
   rename_i hnone
   split at hm
   case isFalse=>cases hm
   rename_i hc
   simp only[Bool.and_eq_true,decide_eq_true_eq,Bool.or_eq_true,Bool.not_eq_true']at hc
   obtain⟨⟨rfl,rfl⟩,hown⟩:=hc
   cases hbv:mExp nb (.var x) (extE d off len) a with
   |none=>rw[hbv]at hm;cases hm
   | some a1 =>
     rw[hbv]at hm;cases hm
     obtain⟨b1,b2,b3⟩:=zav hbv
     have hx:ρ' x=den ρ (extE d off len):=b3 ρ ρ' hs hnb
     obtain⟨m,n,av,c,F',e1,e2,e3,e4,e5,e6,e7⟩:=hl.part hte r2
     obtain⟨hk,m',n',a',c',l1,l2,l3,l4,l5,l6,l7⟩:=hl
     rw[e1]at l1;rw[e2]at l2;cases l1;cases l2
     rw[e3]at l3;cases l3
     have hdat:ρ' x = .list ((rows.take (m+n)).drop m):=by rw[hx];exact zcq r1 e1 e2 e4
     have hle:a.le { a1 with th:=(o',.sl o off len)::a1.th }:=by
      refine⟨fun y r hy=>?_,b1.sg⟩
      have:o'≠y:=fun e=>by subst e;rw[hnone]at hy;cases hy
      show look y ((o',Ref.sl o off len)::a1.th)=some r
      rw[zaj this,b2];exact hy
     have hth:({ a1 with th:=(o',.sl o off len)::a1.th }:Acc).th=(o',.sl o off len)::a.th:=by show _::a1.th=_;rw[b2]
     -- the header, the whole row's or the part's
     by_cases hw:isWhole d off len=true
     · have hw':=hw
       simp only[isWhole,Bool.and_eq_true,beq_iff_eq]at hw'
       obtain⟨w1,w2⟩:=hw'
       subst w1
       have hm0:m=0:=by simp[den]at e1;omega
       subst hm0
       subst w2
       have hn:n=rows.length:=by simp[den,U.den,r1,T.len]at e2;omega
       have hN:C.N o=n:=by rw[hn];exact r2.header.1.symm
       have hK:C.K o=c:=by omega
       have hrows:(rows.take (0+n)).drop 0=rows:=by rw[hn];simp
       obtain⟨F2,f1,f2⟩:∃F2,Sub F2 F1/\DRel tab w dp (.sl et3) (.slice (C.A o) (C.N o) (C.K o)) (.list rows) F2:=by
        cases dp with
        |false=>obtain⟨F2,f1,f2⟩:=r2.share;exact⟨F2,f1,f2⟩
        | true =>
          have:dps=true:=by rcases hown with h|h;cases h;exact h.1
          subst this
          exact⟨F1,Sub.refl _,r2⟩
       refine⟨C'.set o' (C.A o) (C.N o) (C.K o) F2,hinv.add hnone hle hth hobs ?_,?_⟩
       · refine⟨dp,et3,x,te,rows,0,n,c,root,gr,obr,d,rfl,hte,by rw[hdat,hrows],?_,r3,r4,r5,?_,r7,fun hd=>?_,e1,e2,?_,?_,by omega,l5,by omega,?_,⟨dps,vw,hrow⟩,fun _=>?_⟩
         ·rw[Ctx.set_self.1,Ctx.set_self.2.1,Ctx.set_self.2.2.1,Ctx.set_self.2.2.2];exact f2
         ·rw[Ctx.set_self.2.2.2];exact f1.trans r6
         · have h2:dps=true/\vw=false:=by rcases hown with h|h;rw[hd]at h;cases h;exact h
           obtain⟨x1,x2⟩:=r8 h2.2
           exact⟨x1,by rw[x2];exact h2.1⟩
         ·rw[Ctx.set_self.2.1];exact hN
         ·rw[Ctx.set_self.2.2.1];exact hK
         · rcases l7 with l7|⟨b,base,l7,_⟩
           ·exact .inl l7
           ·exact .inr ⟨b,base,l7,by rw[Ctx.set_self.1,l7];simp⟩
         ·exact⟨Ctx.set_self.1,Ctx.set_self.2.1,Ctx.set_self.2.2.1⟩
       · refine⟨⟨_,by show look o' (_::a1.th)=_;exact zag⟩,0,n,av,c,rfl,?_,e3,?_,l5,?_,?_⟩
         ·simp only[den,U.den,hdat,hrows,T.len];rw[hn]
         ·rw[Ctx.set_self.2.1];omega
         ·rw[Ctx.set_self.2.2.1];omega
         · rcases l7 with l7|⟨b,base,l7,l8⟩
           ·exact .inl l7
           ·exact .inr ⟨b,base,by rw[Ctx.set_self.1];exact l7,by rw[l8]⟩
     · obtain⟨F2,f1,f2⟩:∃F2,Sub F2 F'/\DRel tab w dp (.sl et3) (.slice av n c) (.list ((rows.take (m+n)).drop m)) F2:=by
        cases dp with
        |false=>obtain⟨F2,f1,f2⟩:=e6.share;exact⟨F2,f1,f2⟩
        | true =>
          have:dps=true:=by rcases hown with h|h;cases h;exact h.1
          subst this
          exact⟨F',Sub.refl _,e6⟩
       refine⟨C'.set o' av n c F2,hinv.add hnone hle hth hobs ?_,?_⟩
       · refine⟨dp,et3,x,te,_,m,n,c,root,gr,obr,d,rfl,hte,hdat,?_,r3,r4,r5,?_,r7,fun hd=>?_,e1,e2,?_,?_,l4,l5,l6,?_,⟨dps,vw,hrow⟩,fun hh=>absurd hh hw⟩
         ·rw[Ctx.set_self.1,Ctx.set_self.2.1,Ctx.set_self.2.2.1,Ctx.set_self.2.2.2];exact f2
         ·rw[Ctx.set_self.2.2.2];exact (f1.trans e5).trans r6
         · have h2:dps=true/\vw=false:=by rcases hown with h|h;rw[hd]at h;cases h;exact h
           obtain⟨x1,x2⟩:=r8 h2.2
           exact⟨x1,by rw[x2];exact h2.1⟩
         ·exact Ctx.set_self.2.1
         ·exact Ctx.set_self.2.2.1
         · rcases l7 with l7|⟨b,base,l7,l8⟩
           ·exact .inl l7
           ·exact .inr ⟨b,base,l7,by rw[Ctx.set_self.1];exact l8⟩
       · refine⟨⟨_,by show look o' (_::a1.th)=_;exact zag⟩,0,n,av,c,rfl,?_,e3,?_,l5,?_,?_⟩
         ·simp only[den,U.den,hdat,T.len];congr 1;simp;omega
         ·rw[Ctx.set_self.2.1];omega
         ·rw[Ctx.set_self.2.2.1];omega
         · rcases l7 with l7|⟨b,base,l7,l8⟩
           ·exact .inl l7
           ·exact .inr ⟨b,base+m*tab.sz et3,by rw[Ctx.set_self.1];exact l8,by rw[l8];simp⟩
 · -- bound already
   rename_i o2 off2 len2 hsome
   split at hm
   case isFalse=>cases hm
   rename_i ho2
   subst ho2
   obtain⟨ob',q1,q2⟩:=hinv o' _ hsome
   rw[hobs]at q1;cases q1
   obtain⟨dp',et',x',ti',rows',m2,n2,c2,root',gr',obr',d',z1,z2,z3,z4,z5,z6,z7,z8,z9,z10,z11,z12,z13,z14,z15,z16,z17,z18,⟨dp3,vw3,z19⟩,z20⟩:=q2
   cases z1
   rw[hrow]at z19;cases z19
   split at hm
   · rename_i hc
     simp only[Bool.and_eq_true,decide_eq_true_eq]at hc
     obtain⟨⟨⟨rfl,rfl⟩,rfl⟩,rfl⟩:=hc
     cases hm
     refine⟨C',Step.same hinv rfl (Acc.le.refl _),?_⟩
     obtain⟨hk,m,n,av,c,l1,l2,l3,l4,l5,l6,l7⟩:=hl
     rw[z11]at l1;rw[z12]at l2
     have e1:m2=m:=by have:=T.int.inj l1;omega
     have e2:n2=n:=by have:=T.int.inj l2;omega
     subst e1;subst e2
     refine⟨⟨_,hsome⟩,0,n2,av,c,rfl,?_,l3,by omega,l5,by omega,?_⟩
     ·simp only[den,U.den,z3,T.len];congr 1;rw[z4.header.1,z13]
     · rcases l7 with l7|⟨b,base,l7,l8⟩
       ·exact .inl l7
       · rcases z18 with z18|⟨b',base',z18,z18'⟩
         ·exact .inl (by omega)
         · rw[l7]at z18;cases z18
           exact .inr ⟨b,_,z18',by rw[l8];simp⟩
   · split at hm
     · rename_i hw
       cases hb1:mExp nb off' off a with
       |none=>rw[hb1]at hm;cases hm
       | some a1 =>
         rw[hb1]at hm
         simp only[Option.bind_some]at hm
         obtain⟨p1,p2,p3⟩:=zav hb1
         obtain⟨p4,p5,p6⟩:=zav hm
         obtain⟨w1,w2,w3⟩:=z20 hw
         have hs1:∀x e,look x a1.sg=some e->ρ' x=den ρ e:=fun x e hx=>hs x e (p4.sg x e hx)
         refine⟨C',Step.same hinv (p5.trans p2) (p1.trans p4),?_⟩
         obtain⟨hk,m,n,av,c,l1,l2,l3,l4,l5,l6,l7⟩:=hl
         refine⟨⟨_,(p1.trans p4).th _ _ hsome⟩,m,n,av,c,by rw[p3 ρ ρ' hs1 hnb];exact l1,by rw[p6 ρ ρ' hs hnb];exact l2,l3,by rw[w2];exact l4,l5,by rw[w3];exact l6,?_⟩
         rw[w1];exact l7
     ·cases hm
 ·cases hm
theorem zfC (hT:TabOk P tab)(h:Rel tab Γ ρ tm w C kn Wr w0)(hG:holdsG ρ G)(hnb:∀x,x<nb->ρ' x=ρ x){o':Nat}{et:TypeId}{off' len':Exp}{o:Nat}{et2:TypeId}{off len:Exp}{a b:Acc}{v:Value}{C':Ctx}
 (hm:mSlW tab Γ G nb obs o' et off' len' o et2 off len a=some b) (hl:LeafRel tab C kn.o ρ (.sl o et2 off len) v) (hinv:Inv tab Γ G ρ ρ' w C obs a C') (hs:∀x e,look x b.sg=some e->ρ' x=den ρ e)
 (hle:∀{off' len' off len:Exp} {et2:TypeId} {a b:Acc},mSl tab Γ G nb obs o' et off' len' o et2 off len a=some b->a.le b) :
 ∃C'',Step tab Γ G ρ ρ' w C obs a b C' C''/\LeafRel tab C'' (kOf b) ρ' (.sl o' et off' len') v:=by
 unfold mSlW at hm
 split at hm
 · split at hm
   ·exact zca hT h hG hnb hm hl hinv hs
   · split at hm
     case h_2=>cases hm
     rename_i dps et3 d vw hrow
     split at hm
     case h_2=>cases hm
     rename_i a1 ha1
     obtain⟨rows,F1,root,gr,obr,r1,r2,_⟩:=zf2 h hG hrow
     obtain⟨x1,x2,x3⟩:=r2.header
     have hk:kn.o o:=hl.1
     obtain⟨C1,s1,s2⟩:=zca (v:=.slice (C.A o) (C.N o) (C.K o)) hT h hG hnb ha1 ⟨hk,0,C.N o,_,_,rfl,by simp only[den,U.den,r1,T.len,x1],rfl,by omega,x2,by omega,by
      rcases x3 with h0|⟨bb,off,h0⟩
      ·exact .inl h0
      ·exact .inr ⟨bb,off,h0,by rw[h0];simp⟩⟩ hinv (fun x e hx=>hs x e ((hle hm).sg x e hx))
     obtain⟨C2,t1,t2⟩:=zca hT h hG hnb hm hl s1.inv hs
     exact⟨C2,s1.trans t1,t2⟩
 ·exact zca hT h hG hnb hm hl hinv hs
theorem zfz (hT:TabOk P tab){o':Nat}{et:TypeId}{off' len':Exp}{a b:Acc}{v:Value}{C':Ctx}{k:Nat->Prop}
 (hm:mNil tab nb obs o' et off' len' a=some b) (hl:LeafRel tab C k ρ .nil v) (hinv:Inv tab Γ G ρ ρ' w C obs a C') (hs:∀x e,look x b.sg=some e->ρ' x=den ρ e) :
 ∃C'',Step tab Γ G ρ ρ' w C obs a b C' C''/\LeafRel tab C'' (kOf b) ρ' (.sl o' et off' len') v:=by
 unfold mNil at hm
 cases hl
 split at hm
 case h_2=>cases hm
 rename_i dp et' x hobs
 split at hm
 case isFalse=>cases hm
 rename_i hc
 simp only[Bool.and_eq_true,decide_eq_true_eq]at hc
 obtain⟨⟨⟨⟨rfl,hnbx⟩,rfl⟩,rfl⟩,hte⟩:=hc
 obtain⟨te,hte⟩:=Option.isSome_iff_exists.1 hte
 split at hm
 · rename_i hnone
   cases hbv:bindV x .nil a with
   |none=>rw[hbv]at hm;cases hm
   | some a1 =>
     rw[hbv]at hm;cases hm
     obtain⟨b1,b2,b3⟩:=zdw hbv
     have hx:ρ' x = .list []:=hs x _ b3
     have hle:a.le { a1 with th:=(o',.nil)::a1.th }:=by
      refine⟨fun y r hy=>?_,b1.sg⟩
      have:o'≠y:=fun e=>by subst e;rw[hnone]at hy;cases hy
      show look y ((o',Ref.nil)::a1.th)=some r
      rw[zaj this,b2];exact hy
     have hth:({ a1 with th:=(o',.nil)::a1.th }:Acc).th=(o',.nil)::a.th:=by show _::a1.th=_;rw[b2]
     refine⟨C'.set o' none 0 0 Emp,hinv.add hnone hle hth hobs ?_,?_⟩
     · refine⟨dp,et',x,rfl,hx,?_,Ctx.set_self.2.2.2,Ctx.set_self.1,Ctx.set_self.2.1,Ctx.set_self.2.2.1⟩
       rw[Ctx.set_self.1,Ctx.set_self.2.1,Ctx.set_self.2.2.1,Ctx.set_self.2.2.2]
       exact DRel.nil hT hte
     · refine⟨⟨_,by show look o' (_::a1.th)=_;exact zag⟩,0,0,none,0,rfl,by simp[den,U.den,hx,T.len],rfl,by omega,by omega,?_,.inl rfl⟩
       rw[Ctx.set_self.2.2.1]
 · rename_i hsome
   cases hm
   obtain⟨ob',q1,q2⟩:=hinv o' _ hsome
   rw[hobs]at q1;cases q1
   obtain⟨dp',et2,x',z1,z2,z3,z4,z5,z6,z7⟩:=q2
   cases z1
   refine⟨C',Step.same hinv rfl (Acc.le.refl _),⟨_,hsome⟩,0,0,none,0,rfl,by simp[den,U.den,z2,T.len],rfl,by omega,by omega,?_,.inl rfl⟩
   rw[z7]
 ·cases hm
theorem zeD {o':Nat}{et:TypeId}{off' len':Exp}{o:Nat}{et2:TypeId}{off len:Exp}{a b:Acc}(hm:mSl tab Γ G nb obs o' et off' len' o et2 off len a=some b):a.le b:=by
 unfold mSl at hm
 repeat' split at hm
 all_goals first
  |(cases hm;done)
  |(cases hm;exact Acc.le.refl _)
  |skip
 · rename_i hnone _
   cases hbv:mExp nb (.var _) (extE _ off len) a with
   |none=>rw[hbv]at hm;cases hm
   | some a1 =>
     rw[hbv]at hm;cases hm
     obtain⟨b1,b2,b3⟩:=zav hbv
     refine⟨fun y r hy=>?_,b1.sg⟩
     have:o'≠y:=fun e=>by subst e;rw[hnone]at hy;cases hy
     show look y ((o',Ref.sl o off len)::a1.th)=some r
     rw[zaj this,b2];exact hy
 · cases hb1:mExp nb off' off a with
   |none=>rw[hb1]at hm;cases hm
   | some a1 =>
     rw[hb1]at hm
     simp only[Option.bind_some]at hm
     exact (zav hb1).1.trans (zav hm).1
theorem zjr {o':Nat}{et:TypeId}{off' len':Exp}{o:Nat}{et2:TypeId}{off len:Exp}{a b:Acc}(hm:mSlW tab Γ G nb obs o' et off' len' o et2 off len a=some b):a.le b:=by
 unfold mSlW at hm
 split at hm
 · split at hm
   ·exact zeD hm
   · split at hm
     case h_2=>cases hm
     split at hm
     case h_2=>cases hm
     rename_i a1 ha1
     exact (zeD ha1).trans (zeD hm)
 ·exact zeD hm
theorem zjI {o':Nat}{et:TypeId}{off' len':Exp}{a b:Acc}(hm:mNil tab nb obs o' et off' len' a=some b):a.le b:=by
 unfold mNil at hm
 repeat' split at hm
 all_goals first
  |(cases hm;done)
  |(cases hm;exact Acc.le.refl _)
  |skip
 rename_i hnone
 cases hbv:bindV _ .nil a with
 |none=>rw[hbv]at hm;cases hm
 | some a1 =>
   rw[hbv]at hm;cases hm
   obtain⟨b1,b2,b3⟩:=zdw hbv
   refine⟨fun y r hy=>?_,b1.sg⟩
   have:o'≠y:=fun e=>by subst e;rw[hnone]at hy;cases hy
   show look y ((o',Ref.nil)::a1.th)=some r
   rw[zaj this,b2];exact hy
theorem zkR {o':Nat}{et:TypeId}{l:Leaf}{a b:Acc}(hm:mSlw tab Γ G nb obs o' et l a=some b):a.le b:=by
 unfold mSlw at hm
 split at hm
 ·exact zjr hm
 ·exact zjI hm
 ·cases hm
theorem zi7 (hT:TabOk P tab)(h:Rel tab Γ ρ tm w C kn Wr w0)(hG:holdsG ρ G)(hnb:∀x,x<nb->ρ' x=ρ x){o':Nat}{et:TypeId}{l:Leaf}{a b:Acc}{v:Value}{C':Ctx}
 (hm:mSlw tab Γ G nb obs o' et l a=some b) (hl:LeafRel tab C kn.o ρ l v) (hinv:Inv tab Γ G ρ ρ' w C obs a C') (hs:∀x e,look x b.sg=some e->ρ' x=den ρ e) :
 ∃C'',Step tab Γ G ρ ρ' w C obs a b C' C''/\LeafRel tab C'' (kOf b) ρ' (.slw o' et) v:=by
 have key:∀dp et0 x C'',look o' obs=some (.row dp et0 (.var x))->Step tab Γ G ρ ρ' w C obs a b C' C''->LeafRel tab C'' (kOf b) ρ' (.sl o' et (.int 0) (.un .len (.var x))) v->LeafRel tab C'' (kOf b) ρ' (.slw o' et) v:=by
  intro dp et0 x C'' hob st hl2
  obtain⟨⟨r,hr⟩,m,n,av,c,l1,l2,l3,l4,l5,l6,l7⟩:=hl2
  have hm0:m=0:=by have:=T.int.inj l1;omega
  subst hm0
  obtain⟨ob',q1,q2⟩:=st.inv _ _ hr
  rw[hob]at q1;cases q1
  have hN:n=C''.N o':=by
   cases r with
   | sl o off len =>
     obtain⟨dp',et',x',ti',rows',m2,n2,c2,root',gr',obr',d',z1,z2,z3,z4,_⟩:=q2
     cases z1
     have h1:=z4.header.1
     simp only[den,U.den,z3,T.len]at l2
     have:=T.int.inj l2
     omega
   | nil =>
     obtain⟨dp',et',x',z1,z2,z3,_⟩:=q2
     cases z1
     have h1:=z3.header.1
     simp only[den,U.den,z2,T.len]at l2
     have:=T.int.inj l2
     simp at h1
     omega
   | bx o =>
     obtain⟨rw',rwc,cells',cells,g,z1,_⟩:=q2
     cases z1
   | mp o =>
     obtain⟨k,v,x,d,g,z1,_⟩:=q2
     cases z1
  refine⟨⟨_,hr⟩,av,by rw[l3,hN];congr 1;omega,?_⟩
  rcases l7 with l7|⟨b2,base,l7,l8⟩
  ·exact .inl (by omega)
  ·exact .inr ⟨b2,base,l7,by rw[l8];simp⟩
 unfold mSlw at hm
 split at hm
 · rename_i dp et0 x o et2 off len hob
   obtain⟨C'',s1,s2⟩:=zfC hT h hG hnb hm hl hinv hs zeD
   exact⟨C'',s1,key _ _ _ _ hob s1 s2⟩
 · rename_i dp et0 x hob
   obtain⟨C'',s1,s2⟩:=zfz hT hm hl hinv hs
   exact⟨C'',s1,key _ _ _ _ hob s1 s2⟩
 ·cases hm
theorem zkP {o' o:Nat}{a b:Acc}(hm:mMap Γ G nb obs o' o a=some b):a.le b:=by
 unfold mMap at hm
 split at hm
 · split at hm
   ·cases hm;exact Acc.le.refl _
   ·cases hm
 ·cases hm
 · rename_i hnone
   split at hm
   case h_2=>cases hm
   rename_i k' v' x g k v d hobs hob
   split at hm
   case isFalse=>cases hm
   cases hbv:mExp nb (.var x) d a with
   |none=>rw[hbv]at hm;cases hm
   | some a1 =>
     rw[hbv]at hm;cases hm
     obtain⟨b1,b2,b3⟩:=zav hbv
     refine⟨fun y r hy=>?_,b1.sg⟩
     have:o'≠y:=fun e=>by subst e;rw[hnone]at hy;cases hy
     show look y ((o',Ref.mp o)::a1.th)=some r
     rw[zaj this,b2];exact hy
theorem ziM (h:Rel tab Γ ρ tm w C kn Wr w0)(hG:holdsG ρ G)(hnb:∀x,x<nb->ρ' x=ρ x){o' o:Nat}{a b:Acc}{v:Value}{C':Ctx}
 (hm:mMap Γ G nb obs o' o a=some b) (hl:LeafRel tab C kn.o ρ (.mp o) v) (hinv:Inv tab Γ G ρ ρ' w C obs a C') (hs:∀x e,look x b.sg=some e->ρ' x=den ρ e) :
 ∃C'',Step tab Γ G ρ ρ' w C obs a b C' C''/\LeafRel tab C'' (kOf b) ρ' (.mp o') v:=by
 obtain⟨hk,r,hA,hv⟩:=hl
 unfold mMap at hm
 split at hm
 · rename_i o2 hsome
   split at hm
   case isFalse=>cases hm
   rename_i he
   subst he;cases hm
   obtain⟨ob',q1,q2⟩:=hinv _ _ hsome
   obtain⟨k,v',x,d,g,z1,z2,z3,z5,z6,z7⟩:=q2
   exact⟨C',Step.same hinv rfl (Acc.le.refl _),⟨_,hsome⟩,r,by rw[z5.1];exact hA,hv⟩
 ·cases hm
 · rename_i hnone
   split at hm
   case h_2=>cases hm
   rename_i k' v' x g k v2 d hobs hob
   split at hm
   case isFalse=>cases hm
   rename_i hc
   simp only[Bool.and_eq_true,decide_eq_true_eq]at hc
   obtain⟨⟨hc,rfl⟩,rfl⟩:=hc
   have hg:=zax hc hG
   cases hbv:mExp nb (.var x) d a with
   |none=>rw[hbv]at hm;cases hm
   | some a1 =>
     rw[hbv]at hm;cases hm
     obtain⟨b1,b2,b3⟩:=zav hbv
     have hx:ρ' x=den ρ d:=b3 ρ ρ' hs hnb
     have hle:a.le { a1 with th:=(o',.mp o)::a1.th }:=by
      refine⟨fun y r hy=>?_,b1.sg⟩
      have:o'≠y:=fun e=>by subst e;rw[hnone]at hy;cases hy
      show look y ((o',Ref.mp o)::a1.th)=some r
      rw[zaj this,b2];exact hy
     have hth:({ a1 with th:=(o',.mp o)::a1.th }:Acc).th=(o',.mp o)::a.th:=by show _::a1.th=_;rw[b2]
     obtain⟨r',es,cl,ents,m1,m2,m3,m4,m5⟩:=(h.obs o g _ hob).2.2 hg
     refine⟨C'.set o' (C.A o) (C.N o) (C.K o) (C.F o),hinv.add hnone hle hth hobs ?_,⟨_,by show look o' (_::a1.th)=_;exact zag⟩,r,by rw[Ctx.set_self.1];exact hA,hv⟩
     refine⟨k',v',x,d,g,rfl,hob,hg,⟨Ctx.set_self.1,Ctx.set_self.2.1,Ctx.set_self.2.2.1⟩,Ctx.set_self.2.2.2,?_⟩
     exact⟨r',es,cl,ents,by rw[Ctx.set_self.1];exact m1,by rw[Ctx.set_self.2.2.2];exact m2,m3,hx.trans m4,m5⟩
theorem zkU {o' o:Nat}{a b:Acc}(hm:mPeB tab Γ G nb obs o' o a=some b):a.le b:=by
 unfold mPeB at hm
 split at hm
 ·cases hm;exact Acc.le.refl _
 · split at hm
   ·exact zeD hm
   ·cases hm
theorem zi0 (hT:TabOk P tab)(h:Rel tab Γ ρ tm w C kn Wr w0)(hG:holdsG ρ G)(hnb:∀x,x<nb->ρ' x=ρ x){o' o:Nat}{a b:Acc}{C':Ctx}
 (hm:mPeB tab Γ G nb obs o' o a=some b) (hk:kn.o o) (hinv:Inv tab Γ G ρ ρ' w C obs a C') (hs:∀x e,look x b.sg=some e->ρ' x=den ρ e) :
 ∃C'',Step tab Γ G ρ ρ' w C obs a b C' C'':=by
 unfold mPeB at hm
 split at hm
 ·cases hm;exact⟨C',Step.same hinv rfl (Acc.le.refl _)⟩
 · split at hm
   · rename_i hrow
     obtain⟨rows,F',root,gr,obr,h1,h2,_⟩:=zaF h hG hrow
     obtain⟨x1,x2,x3⟩:=h2.header
     obtain⟨C'',s1,_⟩:=zca (v:=.slice (C.A o) (C.N o) (C.K o)) hT h hG hnb hm ⟨hk,0,C.N o,C.A o,C.K o,rfl,by simp only[den,U.den,h1,T.len,x1],rfl,by omega,x2,by omega,by
      rcases x3 with x3|⟨b1,off,x3⟩
      ·exact .inl x3
      ·exact .inr ⟨b1,off,x3,by rw[x3];simp⟩⟩ hinv hs
     exact⟨C'',s1⟩
   ·cases hm
theorem zl4:∀fuel:Nat,(∀l' l a b,mLeaf tab Γ G nb obs fuel l' l a=some b->a.le b)/\(∀o' o a b,mBox tab Γ G nb obs fuel o' o a=some b->a.le b) /\
 (∀ls' ls a b,mLeaves tab Γ G nb obs fuel ls' ls a=some b->a.le b)/\(∀cs' cs a b,mCaps tab Γ G nb obs fuel cs' cs a=some b->a.le b)
 |0=>⟨fun _ _ _ _ h=>by simp[mLeaf]at h,fun _ _ _ _ h=>by simp[mBox]at h,fun _ _ _ _ h=>by simp[mLeaves]at h,fun _ _ _ _ h=>by simp[mCaps]at h⟩
 | fuel + 1 => by
   obtain⟨i1,i2,i3,i4⟩:=zl4 fuel
   refine⟨fun l' l a b hm=>?_,fun o' o a b hm=>?_,fun ls' ls a b hm=>?_,fun cs' cs a b hm=>?_⟩
   · unfold mLeaf at hm
     split at hm
     ·cases hm;exact Acc.le.refl _
     · split at hm
       ·exact (zav hm).1
       ·cases hm
     ·exact (zav hm).1
     ·exact (zav hm).1
     ·cases hm;exact Acc.le.refl _
     ·exact zjr hm
     ·exact zjI hm
     · split at hm
       ·exact i2 _ _ _ _ hm
       ·cases hm
     · split at hm
       · split at hm
         · rename_i a1 ha1
           split at hm
           · split at hm
             ·exact (zkU ha1).trans (zav hm).1
             ·cases hm
           ·cases hm
         ·cases hm
       ·cases hm
     ·exact zkR hm
     · split at hm
       ·exact i4 _ _ _ _ hm
       ·cases hm
     ·exact zkP hm
     ·cases hm
   · unfold mBox at hm
     split at hm
     · split at hm
       ·cases hm;exact Acc.le.refl _
       ·cases hm
     ·cases hm
     · split at hm
       · split at hm
         · split at hm
           · rename_i a1 ha1
             split at hm
             · rename_i hn
               cases hm
               have h1:=i3 _ _ _ _ ha1
               refine⟨fun y r hy=>?_,h1.sg⟩
               have hy':=h1.th y r hy
               have:o'≠y:=fun e=>by subst e;rw[hn]at hy';cases hy'
               show look y ((o',Ref.bx o)::a1.th)=some r
               rw[zaj this];exact hy'
             ·cases hm
           ·cases hm
         ·cases hm
       ·cases hm
   · cases ls' with
     | nil => cases ls with
       |nil=>simp only[mLeaves]at hm;cases hm;exact Acc.le.refl _
       |cons=>simp[mLeaves]at hm
     | cons l' ls' => cases ls with
       |nil=>simp[mLeaves]at hm
       | cons l ls =>
         simp only[mLeaves]at hm
         split at hm
         · rename_i a1 ha1
           exact (i1 _ _ _ _ ha1).trans (i3 _ _ _ _ hm)
         ·cases hm
   · cases cs' with
     | nil => cases cs with
       |nil=>simp only[mCaps]at hm;cases hm;exact Acc.le.refl _
       |cons=>simp[mCaps]at hm
     | cons l' ls' => cases cs with
       |nil=>simp[mCaps]at hm
       | cons l ls =>
         simp only[mCaps]at hm
         split at hm
         · rename_i a1 ha1
           exact (i2 _ _ _ _ ha1).trans (i4 _ _ _ _ hm)
         ·cases hm
theorem zhx (hT : TabOk P tab) (h : Rel tab Γ ρ tm w C kn Wr w0) (hG : holdsG ρ G) (hnb : ∀ x, x < nb -> ρ' x = ρ x) : ∀ fuel : Nat,
 (∀l' l a b v C',mLeaf tab Γ G nb obs fuel l' l a=some b->LeafRel tab C kn.o ρ l v->Inv tab Γ G ρ ρ' w C obs a C'->(∀x e,look x b.sg=some e->ρ' x=den ρ e) ->
  ∃C'',Step tab Γ G ρ ρ' w C obs a b C' C''/\LeafRel tab C'' (kOf b) ρ' l' v) /\
 (∀o' o a b C',mBox tab Γ G nb obs fuel o' o a=some b->Inv tab Γ G ρ ρ' w C obs a C'->(∀x e,look x b.sg=some e->ρ' x=den ρ e) ->
  ∃C'',Step tab Γ G ρ ρ' w C obs a b C' C''/\look o' b.th=some (.bx o)) /\
 (∀ls' ls a b C' (Vp:Nat->Value->Prop),mLeaves tab Γ G nb obs fuel ls' ls a=some b->(∀(j:Nat) l,ls[j]? = some l->∃v,Vp j v/\LeafRel tab C kn.o ρ l v)->Inv tab Γ G ρ ρ' w C obs a C'->(∀x e,look x b.sg=some e->ρ' x=den ρ e) ->
  ∃C'',Step tab Γ G ρ ρ' w C obs a b C' C''/\ls'.length=ls.length/\∀(j:Nat) l',ls'[j]? = some l'->∃v,Vp j v/\LeafRel tab C'' (kOf b) ρ' l' v) /\
 (∀cs' cs a b C',mCaps tab Γ G nb obs fuel cs' cs a=some b->Inv tab Γ G ρ ρ' w C obs a C'->(∀x e,look x b.sg=some e->ρ' x=den ρ e) ->
  ∃C'',Step tab Γ G ρ ρ' w C obs a b C' C''/\∀(i:Nat) c',cs'[i]? = some c'->∃c,cs[i]? = some c/\look c' b.th=some (.bx c))
 |0=>⟨fun _ _ _ _ _ _ h=>by simp[mLeaf]at h,fun _ _ _ _ _ h=>by simp[mBox]at h,fun _ _ _ _ _ _ h=>by simp[mLeaves]at h,fun _ _ _ _ _ h=>by simp[mCaps]at h⟩
 | fuel + 1 => by
   obtain⟨i1,i2,i3,i4⟩:=zhx hT h hG hnb fuel
   obtain⟨j1,j2,j3,j4⟩:=zl4 (tab:=tab) (Γ:=Γ) (G:=G) (nb:=nb) (obs:=obs) fuel
   refine⟨fun l' l a b v C' hm hl hinv hs=>?_,fun o' o a b C' hm hinv hs=>?_,fun ls' ls a b C' Vp hm hl hinv hs=>?_,fun cs' cs a b C' hm hinv hs=>?_⟩
   · replace hl:=zb8 h hG hl
     unfold mLeaf at hm
     generalize normLeaf Γ G l=l at hm hl
     split at hm
     ·cases hm;exact⟨C',Step.same hinv rfl (Acc.le.refl _),trivial⟩
     · split at hm
       · rename_i hk;subst hk
         obtain⟨p1,p2,p3⟩:=zav hm
         obtain⟨n,h1,h2⟩:=hl
         exact⟨C',Step.same hinv p2 p1,n,by rw[p3 ρ ρ' hs hnb];exact h1,h2⟩
       ·cases hm
     · obtain⟨p1,p2,p3⟩:=zav hm
       obtain⟨n,h1,h2⟩:=hl
       exact⟨C',Step.same hinv p2 p1,n,by rw[p3 ρ ρ' hs hnb];exact h1,h2⟩
     · obtain⟨p1,p2,p3⟩:=zav hm
       obtain⟨n,h1,h2⟩:=hl
       exact⟨C',Step.same hinv p2 p1,n,by rw[p3 ρ ρ' hs hnb];exact h1,h2⟩
     ·cases hm;exact⟨C',Step.same hinv rfl (Acc.le.refl _),hl⟩
     ·exact zfC hT h hG hnb hm hl hinv hs zeD
     ·exact zfz hT hm hl hinv hs
     · split at hm
       · rename_i hj;subst hj
         obtain⟨C'',s1,s2⟩:=i2 _ _ _ _ C' hm hinv hs
         obtain⟨ob',q1,q2⟩:=s1.inv _ _ s2
         obtain⟨rw',rwc,cells',cells,g,z1,z2,z3,z4,z5,z6,z7⟩:=q2
         obtain⟨hk,b1,base,hA,hv⟩:=hl
         exact⟨C'',s1,⟨_,s2⟩,b1,base,by rw[z5.1];exact hA,hv⟩
       ·cases hm
     · split at hm
       · rename_i hc
         simp only[Bool.and_eq_true,decide_eq_true_eq]at hc
         obtain⟨rfl,rfl⟩:=hc
         split at hm
         case h_2=>cases hm
         rename_i a1 ha1
         split at hm
         · rename_i o2 off2 len2 _ _ d _ hsome hrow
           split at hm
           · rename_i hc
             simp only[Bool.and_eq_true,decide_eq_true_eq]at hc
             obtain⟨rfl,hw⟩:=hc
             obtain⟨p1,p2,p3⟩:=zav hm
             obtain⟨C1,st1⟩:=zi0 hT h hG hnb ha1 hl.1 hinv fun x e hx=>hs x e (p1.sg x e hx)
             obtain⟨ob',q1,q2⟩:=st1.inv _ _ hsome
             obtain⟨dp',et',x',ti',rows',m2,n2,c2,root',gr',obr',d',z1,z2,z3,z4,z5,z6,z7,z8,z9,z10,z11,z12,z13,z14,z15,z16,z17,z18,⟨dp3,vw3,z19⟩,z20⟩:=q2
             rw[hrow]at z19;cases z19
             obtain⟨w1,w2,w3⟩:=z20 hw
             obtain⟨hk,m,b1,base,h1,h2,h3,h4⟩:=hl
             exact⟨C1,st1.trans (Step.same st1.inv p2 p1),⟨_,p1.th _ _ hsome⟩,m,b1,base,by rw[p3 ρ ρ' hs hnb];exact h1,by rw[w2];exact h2,by rw[w1];exact h3,h4⟩
           ·cases hm
         ·cases hm
       ·cases hm
     ·exact zi7 hT h hG hnb hm hl hinv hs
     · split at hm
       · rename_i hc
         simp only[Bool.and_eq_true,decide_eq_true_eq]at hc
         obtain⟨rfl,hlen⟩:=hc
         obtain⟨C'',s1,s2⟩:=i4 _ _ _ _ C' hm hinv hs
         obtain⟨vs,h1,h2,h3⟩:=hl
         refine⟨C'',s1,vs,h1,by rw[h2,hlen],fun i c' hi=>?_⟩
         obtain⟨c,t1,t2⟩:=s2 i c' hi
         obtain⟨ob',q1,q2⟩:=s1.inv _ _ t2
         obtain⟨rw',rwc,cells',cells,g,z1,z2,z3,z4,z5,z6,z7⟩:=q2
         obtain⟨hk,b1,base,hA,hv⟩:=h3 i c t1
         exact⟨⟨_,t2⟩,b1,base,by rw[z5.1];exact hA,hv⟩
       ·cases hm
     ·exact ziM h hG hnb hm hl hinv hs
     ·cases hm
   · unfold mBox at hm
     split at hm
     · rename_i o2 hsome
       split at hm
       · rename_i he;subst he;cases hm
         exact⟨C',Step.same hinv rfl (Acc.le.refl _),hsome⟩
       ·cases hm
     ·cases hm
     · split at hm
       · rename_i rw' cells' g rwc cells hobs hob
         split at hm
         · rename_i hc
           simp only[Bool.and_eq_true,decide_eq_true_eq,Bool.or_eq_true,Bool.not_eq_true']at hc
           obtain⟨⟨c1,c2⟩,c3⟩:=hc
           split at hm
           · rename_i a1 ha1
             split at hm
             · rename_i hn
               cases hm
               have hg:=zax c1 hG
               obtain⟨b1,base,hA,hF,hcell,hfro⟩:=(h.obs o g _ hob).2.2 hg
               have hle1:a1.le { a1 with th:=(o',.bx o)::a1.th }:=by
                refine⟨fun y r hy=>?_,fun _ _=>id⟩
                have:o'≠y:=fun e=>by subst e;rw[hn]at hy;cases hy
                show look y ((o',Ref.bx o)::a1.th)=some r
                rw[zaj this];exact hy
               obtain⟨C1,s1,s2,s3⟩:=i3 cells' cells a a1 C' (fun j v=>cellAt w b1 (base+j)=some v) ha1 hcell hinv (fun x e hx=>hs x e (hle1.sg x e hx))
               have hstep:=s1.inv.add (b:={ a1 with th:=(o',.bx o)::a1.th }) (r:=.bx o) (A:=C.A o) (N:=C.N o) (K:=C.K o) (F:=C.F o) hn hle1 rfl hobs ?_
               ·exact⟨_,s1.trans hstep,by show look o' (_::a1.th)=_;exact zag⟩
               · refine⟨rw',rwc,cells',cells,g,rfl,hob,hg,fun e=>?_,⟨Ctx.set_self.1,Ctx.set_self.2.1,Ctx.set_self.2.2.1⟩,Ctx.set_self.2.2.2,?_⟩
                 · rcases c2 with c2|c2
                   ·rw[e]at c2;cases c2
                   ·exact c2
                 · refine⟨b1,base,by rw[Ctx.set_self.1];exact hA,by rw[Ctx.set_self.2.2.2,hF,c3],fun j l' hj=>?_,fun e x hx=>?_⟩
                   · obtain⟨v,v1,v2⟩:=s3 j l' hj
                     refine⟨v,v1,zf1 v2 hle1 fun y r hy=>Ctx.set_ne fun e=>by subst e;rw[hn]at hy;cases hy⟩
                   · refine hfro ?_ x (by omega)
                     rcases c2 with c2|c2
                     ·rw[e]at c2;cases c2
                     ·exact c2
             ·cases hm
           ·cases hm
         ·cases hm
       ·cases hm
   · cases ls' with
     | nil => cases ls with
       | nil =>
         simp only[mLeaves]at hm;cases hm
         exact⟨C',Step.same hinv rfl (Acc.le.refl _),rfl,fun j l' hj=>by simp at hj⟩
       |cons=>simp[mLeaves]at hm
     | cons l' ls' => cases ls with
       |nil=>simp[mLeaves]at hm
       | cons l ls =>
         simp only[mLeaves]at hm
         split at hm
         · rename_i a1 ha1
           have hle2:=j3 _ _ _ _ hm
           obtain⟨v0,v1,v2⟩:=hl 0 l rfl
           obtain⟨C1,s1,s2⟩:=i1 l' l a a1 v0 C' ha1 v2 hinv (fun x e hx=>hs x e (hle2.sg x e hx))
           obtain⟨C2,t1,t2,t3⟩:=i3 ls' ls a1 b C1 (fun j v=>Vp (j+1) v) hm (fun j l hj=>hl (j+1) l (by simpa using hj)) s1.inv hs
           refine⟨C2,s1.trans t1,by simp[t2],fun j l2 hj=>?_⟩
           cases j with
           |zero=>simp at hj;subst hj;exact⟨v0,v1,zf1 s2 t1.le t1.alike⟩
           |succ j=>exact t3 j l2 (by simpa using hj)
         ·cases hm
   · cases cs' with
     | nil => cases cs with
       | nil =>
         simp only[mCaps]at hm;cases hm
         exact⟨C',Step.same hinv rfl (Acc.le.refl _),fun j l' hj=>by simp at hj⟩
       |cons=>simp[mCaps]at hm
     | cons c' cs' => cases cs with
       |nil=>simp[mCaps]at hm
       | cons c cs =>
         simp only[mCaps]at hm
         split at hm
         · rename_i a1 ha1
           have hle2:=j4 _ _ _ _ hm
           obtain⟨C1,s1,s2⟩:=i2 c' c a a1 C' ha1 hinv (fun x e hx=>hs x e (hle2.sg x e hx))
           obtain⟨C2,t1,t2⟩:=i4 cs' cs a1 b C1 hm s1.inv hs
           refine⟨C2,s1.trans t1,fun i c2 hi=>?_⟩
           cases i with
           |zero=>simp at hi;subst hi;exact⟨c,rfl,t1.le.th _ _ s2⟩
           |succ i=>simpa using t2 i c2 (by simpa using hi)
         ·cases hm
end
end Gp
namespace Gp
open Go
structure Sig where
 f:FuncId
 ins:List S1
 obs:Obs
 nin:Nat
 outs:List S1
 oobs:Obs
 nout:Nat
 deriving Repr,Inhabited
def noGam:Gam:=⟨[],[]⟩
def WrOf (obs:Obs)(C:Ctx):CS:=fun b x=>∃o ob,look o obs=some ob/\ob.owned=true/\C.F o b x
def kIn (obs:Obs):Nat->Prop:=fun o=>∃ob,look o obs=some ob
structure EntryRel(tab:Tab)(S:Sig)(ρ:Env)(args:Array Value)(w:World)(C:Ctx):Prop where
 size:args.size=S.ins.length
 arg:∀(i:Nat) x,S.ins[i]? = some x->∃v,args[i]? = some v/\S1Rel tab C (kIn S.obs) ρ x v
 ob:∀o ob,look o S.obs=some ob->ob.isView=false/\ObRel tab C (kIn S.obs) ρ noGam w o ob
 dis:∀o1 o2 ob1 ob2,look o1 S.obs=some ob1->look o2 S.obs=some ob2->o1≠o2->ob1.owned=true->Disj (C.F o1) (C.F o2)
def ResRel (tab:Tab)(C:Ctx)(k:Nat->Prop)(ρ:Env)(outs:List S1)(v:Value):Prop :=
 match outs with
 |[x]=>S1Rel tab C k ρ x v
 |xs=>SVRel tab C k ρ (.tup xs) v
structure OutRel(tab:Tab)(S:Sig)(ρ:Env)(C C':Ctx)(w w':World)(v:Value):Prop where
 res:ResRel tab C' (fun o=>kIn S.obs o\/kIn S.oobs o) ρ S.outs v
 ob:∀o ob,look o S.oobs=some ob->ob.isView=false/\ObRel tab C' (fun o=>kIn S.obs o\/kIn S.oobs o) ρ noGam w' o ob
 dis:∀o1 o2 ob1 ob2,look o1 S.oobs=some ob1->look o2 S.oobs=some ob2->o1≠o2->ob1.owned=true->Disj (C'.F o1) (C'.F o2)
 own:∀o ob,look o S.oobs=some ob->∀b x,C'.F o b x->WrOf S.obs C b x\/w.heap.size<=b
 same:∀o,kIn S.obs o->C'.A o=C.A o/\C'.N o=C.N o/\C'.K o=C.K o
 trn:Turned (WrOf S.obs C) w w'
def Contract (P:Program)(tab:Tab)(S:Sig)(ds outs:List T):Prop :=
 ∀ (args : Array Value) (w : World) (C : Ctx), EntryRel tab S (envOf ds) args w C ->
   Calls P S.f args w fun e w'=>∃v C',e = .returned v/\OutRel tab S (envOf outs) C C' w w' v
section
variable {tab:Tab}{Γ:Gam}{ρ:Env}{tm:Array Value}{w w':World}{C:Ctx}{kn kn':Kn}{Wr:CS}{w0:World}{P:Program}{I:Nat->List T->List T->Prop}{G:Grd}{nx no:Nat}
theorem Rel.addL(h:Rel tab Γ ρ tm w C kn Wr w0){L:List (Nat × (Grd × Obj))}{Γ':Gam}{C':Ctx}(hget:∀t,Γ'.get t=Γ.get t)(hobj:∀o,Γ'.obj o=match look o L with|some x=>some x|none=>Γ.obj o)
 (habs:∀o x,look o L=some x->Γ.obj o=none) (hk:kn.le kn') (hkL:∀o x,look o L=some x->kn'.o o) (hC:∀o,kn.o o->C'.A o=C.A o/\C'.N o=C.N o/\C'.K o=C.K o) (hF:∀o x,Γ.obj o=some x->C'.F o=C.F o)
 (hL:∀o g ob,look o L=some (g,ob)->ob.isView=false/\ob.verOk kn'/\(∀et x,ob = .row true et (.var x)->¬kn.v x)/\(holdsG ρ g->ObRel tab C' kn'.o ρ noGam w o ob))
 (hdL:∀o1 o2 g1 g2 ob1 ob2,look o1 L=some (g1,ob1)->look o2 L=some (g2,ob2)->holdsG ρ g1->holdsG ρ g2->o1≠o2->ob1.owned=true->Disj (C'.F o1) (C'.F o2))
 (hd:∀o1 o2 g1 g2 ob1 ob2,look o1 L=some (g1,ob1)->Γ.obj o2=some (g2,ob2)->holdsG ρ g1->holdsG ρ g2->ob2.isView=false->(ob1.owned=true\/ob2.owned=true)->Disj (C'.F o1) (C.F o2))
 (hw:∀o g ob,look o L=some (g,ob)->holdsG ρ g->ob.owned=true->∀b x,C'.F o b x->Wr b x\/w0.heap.size<=b) :
 Rel tab Γ' ρ tm w C' kn' Wr w0:=by
 have hsplit:∀o x,Γ'.obj o=some x->look o L=some x\/(look o L=none/\Γ.obj o=some x):=by
  intro o x hx
  rw[hobj]at hx
  cases hl:look o L with
  |some y=>rw[hl]at hx;exact .inl hx
  |none=>rw[hl]at hx;exact .inr ⟨rfl,hx⟩
 exact {
  tms:=fun t g sv ht=>by
   rw[hget]at ht
   obtain⟨h1,h2⟩:=h.tms t g sv ht
   exact⟨fun hg=>(h1 hg).mono hk.1 hC,h2⟩
  obs:=fun o g ob ho=>by
   rcases hsplit o _ ho with hl|⟨hl,ho'⟩
   · obtain⟨q1,q2,q3,q4⟩:=hL o g ob hl
     exact⟨hkL o _ hl,q2,fun hg=>(q4 hg).congrObj fun par pd i j et d he=>by rw[he]at q1;cases q1⟩
   · obtain⟨q1,q2,q3⟩:=h.obs o g ob ho'
     refine⟨hk.1 o q1,q2.mono hk.1 hk.2,fun hg=>?_⟩
     refine ((q3 hg).mono hk.1 q1 hC (hF o _ ho') fun par pd i j et d _ gp pet hp=>(h.obs par gp _ hp).1).congrObj fun par pd i j et d he gp pet hp hgp=>?_
     rcases hsplit par _ hp with hl2|⟨hl2,hp'⟩
     · exfalso
       rw[he]at q2
       obtain⟨_,x,hx1,hx2⟩:=q2
       obtain⟨_,_,z3,_⟩:=hL par gp _ hl2
       exact z3 pet x (by rw[hx1]) hx2
     ·exact⟨gp,hp',hgp⟩
  dis:=fun a b ga gb oa ob ha hb hga hgb hab hoa hvb=>by
   rcases hsplit a _ ha with hla|⟨hla,ha'⟩
   · rcases hsplit b _ hb with hlb|⟨hlb,hb'⟩
     ·exact hdL a b ga gb oa ob hla hlb hga hgb hab hoa
     ·rw[hF b _ hb'];exact hd a b ga gb oa ob hla hb' hga hgb hvb (.inl hoa)
   · rcases hsplit b _ hb with hlb|⟨hlb,hb'⟩
     ·rw[hF a _ ha'];exact (hd b a gb ga ob oa hlb ha' hgb hga (by cases oa<;>simp_all[Obj.owned,Obj.isView]) (.inr hoa)).symm
     ·rw[hF a _ ha',hF b _ hb'];exact h.dis a b ga gb oa ob ha' hb' hga hgb hab hoa hvb
  own:=fun a ga oa ha hga hoa b x hf=>by
   rcases hsplit a _ ha with hla|⟨hla,ha'⟩
   ·exact hw a ga oa hla hga hoa b x hf
   ·rw[hF a _ ha']at hf;exact h.own a ga oa ha' hga hoa b x hf
  frm:=h.frm }
theorem zit:∀(L:List (Nat × (Grd × Obj))) (Γ:Gam) (o:Nat),(Γ.appOb (L.reverse.map fun p=>(p.1,some p.2))).obj o=match look o L with|some x=>some x|none=>Γ.obj o
 |[],Γ,o=>rfl
 | (k, x) :: L, Γ, o => by
   rw[List.reverse_cons,List.map_append,Gam.appOb_append]
   simp only[List.map_cons,List.map_nil,Gam.appOb]
   by_cases e:k=o
   ·subst e;rw[Gam.obj_setOb_self,zag]
   ·rw[Gam.obj_setOb_ne _ _ e,zit L Γ o,zaj e]
def Exp.shift(z:Nat):Exp->Exp
 |.var x=>.var (z+x)
 |.int n=>.int n
 |.bool b=>.bool b
 |.str l=>.str l
 |.nil=>.nil
 |.un o a=>.un o (a.shift z)
 |.bin o a b=>.bin o (a.shift z) (b.shift z)
 |.tri o a b c=>.tri o (a.shift z) (b.shift z) (c.shift z)
theorem zbw {z n:Nat}{outs:List T}(h:∀(j:Nat) v,outs[j]? = some v->ρ (z+j)=v)(hn:outs.length=n):∀e:Exp,e.bnd n=true->den ρ (e.shift z)=den (envOf outs) e
 | .var x, hb => by
   have hx:x<n:=by simpa[Exp.bnd]using hb
   simp only[Exp.shift,den,envOf]
   rw[List.getD_eq_getElem?_getD]
   obtain⟨v,hv⟩:∃v,outs[x]? = some v:=⟨_,List.getElem?_eq_getElem (by omega)⟩
   rw[hv,h x v hv];rfl
 |.int _,_|.bool _,_|.str _,_|.nil,_=>rfl
 |.un o a,hb=>by simp only[Exp.shift,den];rw[zbw h hn a hb]
 | .bin o a b, hb => by
   simp only[Exp.bnd,Bool.and_eq_true]at hb
   simp only[Exp.shift,den];rw[zbw h hn a hb.1,zbw h hn b hb.2]
 | .tri o a b c, hb => by
   simp only[Exp.bnd,Bool.and_eq_true]at hb
   simp only[Exp.shift,den];rw[zbw h hn a hb.1,zbw h hn b hb.2.1,zbw h hn c hb.2.2]
def newAt (obs:Obs):List (Nat × Obj)->Nat->Nat->Option Nat
 |[],_,_=>none
 |(k,_)::r,n,o=>if (look k obs).isSome then newAt obs r n o else if Nat.beq k o then some n else newAt obs r (n+1) o
def newCount (obs:Obs):List (Nat × Obj)->Nat
 |[]=>0
 |(k,_)::r=>if (look k obs).isSome then newCount obs r else newCount obs r+1
def backBox (th:List (Nat × Ref))(c:Nat):Option Nat:=match look c th with
 |some (.bx o)=>some o
 |_=>none
def backCap (S:Sig)(th:List (Nat × Ref))(no:Nat)(c:Nat):Option Nat:=match backBox th c with
 |some o=>some o
 |none=>newAt S.obs S.oobs no c
def backMap (th:List (Nat × Ref))(c:Nat):Option Nat:=match look c th with
 |some (.mp o)=>some o
 |_=>none
def backLeaf (S : Sig) (th : List (Nat × Ref)) (no z : Nat) : Leaf -> Option Leaf
 |.dead=>some .dead
 |.nil=>some .nil
 |.int k e=>if e.bnd S.nout then some (.int k (e.shift z)) else none
 |.bool e=>if e.bnd S.nout then some (.bool (e.shift z)) else none
 |.str e=>if e.bnd S.nout then some (.str (e.shift z)) else none
 | .sl o' et off len => if off.bnd S.nout && len.bnd S.nout then
  match look o' S.obs with
  | some (.row _ et2 _) => match look o' th with
    |some (.sl o off0 _)=>if et2=et then some (.sl o et (plusE off0 (off.shift z)) (len.shift z)) else none
    |_=>some .dead
  |some _=>some .dead
  | none => match newAt S.obs S.oobs no o' with
    |some o=>some (.sl o et (off.shift z) (len.shift z))
    |none=>some .dead
   else none
 |.slw o' et=>match look o' S.obs with
  | some (.row _ et2 _) => match look o' th with
    |some (.sl o off0 len0)=>if et2=et then some (.sl o et off0 len0) else none
    |_=>some .dead
  |some _=>some .dead
  | none => match newAt S.obs S.oobs no o' with
    |some o=>some (.slw o et)
    |none=>some .dead
 | .pb o' j => match backBox th o' with
   |some o=>some (.pb o j)
   |none=>none
 |.pe ..=>none
 | .mp o' => match backMap th o' with
   |some o=>some (.mp o)
   |none=>none
 | .fn f caps => match caps.mapM (backCap S th no) with
   |some cs=>some (.fn f cs)
   |none=>none
def backS1 (S:Sig)(th:List (Nat × Ref))(no z:Nat):S1->Option S1
 | .one l => match backLeaf S th no z l with
   |some .dead=>none
   |some l=>some (.one l)
   |none=>none
 | .agg ls => match ls.mapM (backLeaf S th no z) with
   |some ls'=>some (.agg ls')
   |none=>none
def backOb (S:Sig)(G:Grd)(th:List (Nat × Ref))(no z:Nat)(o':Nat)(ob:Obj):Option (Option (Nat × (Nat × (Grd × Obj)))) :=
 match look o' S.obs with
 | some x =>
   if x.owned then match look o' th,ob with
   |some (.sl o _ _),.row true et (.var y)=>if Nat.blt y S.nout then some (some (o,o',[],.row true et (.var (z+y)))) else none
   |some .nil,.row true _ _=>some none
   | some (.bx o), .box true cells => match cells.mapM (backLeaf S th no z) with
     |some cs=>some (some (o,o',[],.box true cs))
     |none=>none
   |some (.mp o),.map k v (.var y)=>if Nat.blt y S.nout then some (some (o,o',[],.map k v (.var (z+y)))) else none
   |_,_=>none
   else none
 | none => match ob, newAt S.obs S.oobs no o' with
   |.row true et (.var y),some n=>if Nat.blt y S.nout then some (some (n,o',G,.row true et (.var (z+y)))) else none
   | .box true cells, some n => match cells.mapM (backLeaf S th no z) with
     |some cs=>some (some (n,o',G,.box true cs))
     |none=>none
   |_,_=>none
abbrev BackL:=List (Nat × (Nat × (Grd × Obj)))
def backObs (S:Sig)(G:Grd)(th:List (Nat × Ref))(no z:Nat):List (Nat × Obj)->Option BackL
 |[]=>some []
 | (o', ob) :: r => match backOb S G th no z o' ob, backObs S G th no z r with
   |some (some x),some l=>some (x::l)
   |some none,some l=>some l
   |_,_=>none
end
end Gp
namespace Gp
open Go
def mS1 (tab:Tab)(Γ:Gam)(G:Grd)(nb:Nat)(obs:Obs):S1->S1->Acc->Option Acc
 |.one l',.one l,a=>mLeaf tab Γ G nb obs 400 l' l a
 |.agg ls',.agg ls,a=>mLeaves tab Γ G nb obs 400 ls' ls a
 |_,_,_=>none
def mS1s (tab:Tab)(Γ:Gam)(G:Grd)(nb:Nat)(obs:Obs):List S1->List S1->Acc->Option Acc
 |[],[],a=>some a
 | x' :: xs', x :: xs, a => match mS1 tab Γ G nb obs x' x a with
   |some a=>mS1s tab Γ G nb obs xs' xs a
   |none=>none
 |_,_,_=>none
def rootOf (Γ:Gam)(o:Nat):Nat:=match Γ.obj o with
 |some (_,.view par ..)=>par
 |_=>o
def rootRef (Γ:Gam):Ref->Option Nat
 |.sl o _ _=>some (rootOf Γ o)
 |.nil=>none
 |.bx o=>some o
 |.mp o=>some o
def chkOwn (Γ : Gam) (obs : Obs) (th : List (Nat × Ref)) : Bool :=
 obs.all fun(o',ob)=>!ob.owned||match look o' th with
  | some r => match rootRef Γ r with
    |some q=>th.all fun(o2,r2)=>Nat.beq o2 o'||(match rootRef Γ r2 with|some q2=>!Nat.beq q2 q|none=>true)
    |none=>true
  |none=>false
def allBound (obs:Obs)(th:List (Nat × Ref)):Bool:=obs.all fun(o',_)=>(look o' th).isSome
def passedOf (obs:Obs)(th:List (Nat × Ref)):List Nat:=obs.filterMap fun(o',ob) =>
 if ob.owned then match look o' th with
  |some (.sl o _ _)=>some o
  |some (.bx o)=>some o
  |some (.mp o)=>some o
  |_=>none
 else none
def keptWhole (Γ : Gam) (G : Grd) (S : Sig) (th : List (Nat × Ref)) : Bool :=
 S.obs.all fun(o',ob)=>!ob.owned||(look o' S.oobs).isNone||match look o' th with
  | some (.sl o off len) => match rowOf Γ G o with
    |some (_,_,d,_)=>isWhole d off len
    |none=>false
  |_=>true
def keysNodup:List (Nat × Obj)->Bool
 |[]=>true
 |(k,_)::r=>(look k r).isNone&&keysNodup r
def sgArgs (sg:List (Nat × Exp)):Nat->Nat->Option (List Exp)
 |0,_=>some []
 | n + 1, x => match look x sg, sgArgs sg n (x + 1) with
   |some e,some es=>some (e::es)
   |_,_=>none
def anCall (tab : Tab) (S : Sig) (i : Nat) (Γ : Gam) (G : Grd) (nx no : Nat) (args : List S1) : Option Res :=
 match mS1s tab Γ G 0 S.obs S.ins args ⟨[],[]⟩ with
 | some a =>
   if allBound S.obs a.th && chkOwn Γ S.obs a.th && keptWhole Γ G S a.th && keysNodup S.oobs && keysNodup S.obs && a.sg.all (fun p => Nat.blt p.1 S.nin) then
    match sgArgs a.sg S.nin 0,backObs S G a.th no nx S.oobs,S.outs.mapM (backS1 S a.th no nx) with
    | some es, some L, some xs =>
      some ⟨match xs with|[x]=>.s x|xs=>.tup xs,dels (passedOf S.obs a.th)++((L.map fun p=>(p.1,p.2.2)).reverse.map fun p=>(p.1,some p.2)),[(G,.call i es nx S.nout)],nx+S.nout,no+newCount S.obs S.oobs⟩
    |_,_,_=>none
   else none
 |none=>none
section
variable {tab:Tab}{Γ:Gam}{ρ ρ':Env}{tm:Array Value}{w w':World}{C:Ctx}{kn kn':Kn}{Wr:CS}{w0:World}{P:Program}{I:Nat->List T->List T->Prop}{G:Grd}{nx no nb:Nat}{obs:Obs}
theorem zjv:∀{xs' xs:List S1} {a b:Acc},mS1s tab Γ G nb obs xs' xs a=some b->a.le b
 |[],[],a,b,h=>by cases h;exact Acc.le.refl _
 |[],_::_,_,_,h=>by simp[mS1s]at h
 |_::_,[],_,_,h=>by simp[mS1s]at h
 | x' :: xs', x :: xs, a, b, h => by
   simp only[mS1s]at h
   split at h
   case h_2=>cases h
   rename_i a1 ha1
   refine Acc.le.trans ?_ (zjv h)
   unfold mS1 at ha1
   split at ha1
   ·exact (zl4 400).1 _ _ _ _ ha1
   ·exact (zl4 400).2.2.1 _ _ _ _ ha1
   ·cases ha1
theorem S1Rel.alike{a b:Acc}{C1 C2:Ctx}{x:S1}{v:Value}(h:S1Rel tab C1 (kOf a) ρ x v)(hle:a.le b)(hal:Alike a C1 C2):S1Rel tab C2 (kOf b) ρ x v :=
 h.mono (kOf.mono hle) fun o ⟨r,hr⟩=>⟨(hal o r hr).1,(hal o r hr).2.1,(hal o r hr).2.2.1⟩
theorem zcp (hT:TabOk P tab)(h:Rel tab Γ ρ tm w C kn Wr w0)(hG:holdsG ρ G)(hnb:∀x,x<nb->ρ' x=ρ x):∀{xs' xs:List S1} {a b:Acc} {C':Ctx} (Vp:Nat->Value->Prop),mS1s tab Γ G nb obs xs' xs a=some b ->
 (∀(j:Nat) x,xs[j]? = some x->∃v,Vp j v/\S1Rel tab C kn.o ρ x v)->Inv tab Γ G ρ ρ' w C obs a C'->(∀x e,look x b.sg=some e->ρ' x=den ρ e) ->
 ∃C'',Step tab Γ G ρ ρ' w C obs a b C' C''/\xs'.length=xs.length/\∀(j:Nat) x',xs'[j]? = some x'->∃v,Vp j v/\S1Rel tab C'' (kOf b) ρ' x' v
 | [], [], a, b, C', Vp, hm, hl, hinv, hs => by
   cases hm
   exact⟨C',Step.same hinv rfl (Acc.le.refl _),rfl,fun j x' hj=>by simp at hj⟩
 |[],_::_,_,_,_,_,hm,_,_,_=>by simp[mS1s]at hm
 |_::_,[],_,_,_,_,hm,_,_,_=>by simp[mS1s]at hm
 | x' :: xs', x :: xs, a, b, C', Vp, hm, hl, hinv, hs => by
   simp only[mS1s]at hm
   split at hm
   case h_2=>cases hm
   rename_i a1 ha1
   have hle2:=zjv hm
   obtain⟨v0,v1,v2⟩:=hl 0 x rfl
   have hs1:∀x e,look x a1.sg=some e->ρ' x=den ρ e:=fun x e hx=>hs x e (hle2.sg x e hx)
   obtain⟨C1,s1,s2⟩:∃C1,Step tab Γ G ρ ρ' w C obs a a1 C' C1/\S1Rel tab C1 (kOf a1) ρ' x' v0:=by
    unfold mS1 at ha1
    split at ha1
    · obtain⟨C1,q1,q2⟩:=(zhx hT h hG hnb 400).1 _ _ _ _ v0 C' ha1 v2.1 hinv hs1
      exact⟨C1,q1,q2,v2.2⟩
    · obtain⟨vs,rfl,w1,w2⟩:=v2
      obtain⟨C1,q1,q2,q3⟩:=(zhx hT h hG hnb 400).2.2.1 _ _ _ _ C' (fun j u=>vs[j]? = some u) ha1 w2 hinv hs1
      exact⟨C1,q1,vs,rfl,by rw[w1,q2],q3⟩
    ·cases ha1
   obtain⟨C2,t1,t2,t3⟩:=zcp hT h hG hnb (fun j v=>Vp (j+1) v) hm (fun j x hj=>hl (j+1) x (by simpa using hj)) s1.inv hs
   refine⟨C2,s1.trans t1,by simp[t2],fun j x2 hj=>?_⟩
   cases j with
   |zero=>simp at hj;subst hj;exact⟨v0,v1,S1Rel.alike s2 t1.le t1.alike⟩
   |succ j=>exact t3 j x2 (by simpa using hj)
theorem Inv.empty{C':Ctx}:Inv tab Γ G ρ ρ' w C obs ⟨[],[]⟩ C':=fun o r h=>by simp[look]at h
theorem zam {α:Type}:∀{l:List (Nat × α)} {k:Nat} {x:α},look k l=some x->(k,x)∈l
 |[],k,x,h=>by simp[look]at h
 | (q, y) :: r, k, x, h => by
   simp only[look]at h
   split at h
   · rename_i e
     have:=Nat.eq_of_beq_eq_true e
     subst this;cases h;simp
   ·exact List.mem_cons_of_mem _ (zam h)
theorem Bound.root{C':Ctx}{k':Nat->Prop}{o':Nat}{ob':Obj}{r:Ref}(hb:Bound tab Γ ρ ρ' w (G:=G) C C' k' o' ob' r) :
 (rootRef Γ r=none/\C'.F o'=Emp)\/∃q g ob,rootRef Γ r=some q/\Γ.obj q=some (g,ob)/\holdsG ρ g/\ob.isView=false/\Sub (C'.F o') (C.F q)/\(ob'.owned=true->ob.owned=true/\(match r with|.sl o _ _=>o=q|.bx o=>o=q|.mp o=>o=q|.nil=>True)):=by
 cases r with
 | nil =>
   obtain⟨dp,et,x,z1,z2,z3,z4,_⟩:=hb
   exact .inl ⟨rfl,z4⟩
 | sl o off len =>
   obtain⟨dp',et',x',ti',rows',m2,n2,c2,root',gr',obr',d',z1,z2,z3,z4,z5,z6,z7,z8,z9,z10,_⟩:=hb
   right
   have hroot:rootOf Γ o=root':=by
    rcases z9 with z9|⟨g,pd,i,j,et2,d2,hv⟩
    · subst z9
      unfold rootOf
      rw[z5]
      cases obr' with
      |view=>cases z7
      |row=>rfl
      |box=>rfl
      |map=>rfl
    ·unfold rootOf;rw[hv]
   refine⟨root',gr',obr',by simp only[rootRef,hroot],z5,z6,z7,z8,fun ho=>?_⟩
   subst z1
   obtain⟨y1,y2⟩:=z10 ho
   exact⟨y2,y1.symm⟩
 | bx o =>
   obtain⟨rw',rwc,cells',cells,g,z1,z2,z3,z4,z5,z6,z7⟩:=hb
   right
   refine⟨o,g,_,rfl,z2,z3,rfl,by rw[z6];exact Sub.refl _,fun ho=>⟨?_,rfl⟩⟩
   subst z1
   exact z4 ho
 | mp o =>
   obtain⟨k,v,x,d,g,z1,z2,z3,z5,z6,z7⟩:=hb
   exact .inr ⟨o,g,_,rfl,z2,z3,rfl,by rw[z6];exact Sub.refl _,fun ho=>⟨rfl,rfl⟩⟩
theorem Bound.dis(h:Rel tab Γ ρ tm w C kn Wr w0){k:Nat->Prop}{C':Ctx}{o1 o2:Nat}{ob1 ob2:Obj}{r1 r2:Ref}(hB1:Bound tab Γ ρ ρ' w (G:=G) C C' k o1 ob1 r1)(hB2:Bound tab Γ ρ ρ' w (G:=G) C C' k o2 ob2 r2)(hown:ob1.owned=true)
 (hq:∀q,rootRef Γ r1=some q->rootRef Γ r2=some q->False):Disj (C'.F o1) (C'.F o2):=by
 rcases hB1.root with⟨_,e1⟩|⟨q1,g1,p1,x1,x2,x3,x4,x5,x6⟩
 ·rw[e1];exact fun _ _ h=>h.elim
 · rcases hB2.root with⟨_,e2⟩|⟨q2,g2,p2,y1,y2,y3,y4,y5,y6⟩
   ·rw[e2];exact fun _ _ _ h=>h.elim
   · have hq:q1≠q2:=by
      rintro rfl
      exact hq q1 x1 y1
     exact (h.dis q1 q2 g1 g2 p1 p2 x2 y2 x3 y3 hq (x6 hown).1 y4).sub x5 y5
theorem zg2 (h:Rel tab Γ ρ tm w C kn Wr w0){a:Acc}{C':Ctx}(hinv:Inv tab Γ G ρ ρ' w C obs a C')(hab:allBound obs a.th=true) :
 (∀o,kIn obs o↔kOf a o) /\
 (∀o ob,look o obs=some ob->∃r,look o a.th=some r/\Bound tab Γ ρ ρ' w (G:=G) C C' (kOf a) o ob r) /\
 (∀o ob,look o obs=some ob->ob.isView=false/\ObRel tab C' (kIn obs) ρ' noGam w o ob) /\
 (∀o ob,look o obs=some ob->ob.owned=true->∀b x,C'.F o b x->∃q g obq,q∈passedOf obs a.th/\Γ.obj q=some (g,obq)/\holdsG ρ g/\obq.owned=true/\C.F q b x):=by
 have hk:∀o,kIn obs o↔kOf a o:=by
  intro o
  constructor
  · rintro⟨ob,ho⟩
    simp only[allBound,List.all_eq_true]at hab
    have:=hab _ (zam ho)
    exact Option.isSome_iff_exists.1 this
  · rintro⟨r,hr⟩
    obtain⟨ob',h1,_⟩:=hinv o r hr
    exact⟨ob',h1⟩
 have hb:∀o ob,look o obs=some ob->∃r,look o a.th=some r/\Bound tab Γ ρ ρ' w (G:=G) C C' (kOf a) o ob r:=by
  intro o ob ho
  obtain⟨r,hr⟩:=(hk o).1 ⟨ob,ho⟩
  obtain⟨ob',h1,h2⟩:=hinv o r hr
  rw[ho]at h1;cases h1
  exact⟨r,hr,h2⟩
 refine⟨hk,hb,fun o ob ho=>?_,fun o ob ho hown b x hf=>?_⟩
 · obtain⟨r,hr,hB⟩:=hb o ob ho
   cases r with
   | sl o2 off len =>
     obtain⟨dp',et',x',ti',rows',m2,n2,c2,root',gr',obr',d',z1,z2,z3,z4,_⟩:=hB
     subst z1
     exact⟨rfl,rows',z3,z4⟩
   | nil =>
     obtain⟨dp,et,x,z1,z2,z3,_⟩:=hB
     subst z1
     exact⟨rfl,[],z2,z3⟩
   | bx o2 =>
     obtain⟨rw',rwc,cells',cells,g,z1,z2,z3,z4,z5,z6,z7⟩:=hB
     subst z1
     refine⟨rfl,(z7.mono (fun o h=>(hk o).2 h) ⟨_,hr⟩ (fun _ _=>⟨rfl,rfl,rfl⟩) rfl fun _ _ _ _ _ _ he=>by cases he).congrObj fun _ _ _ _ _ _ he=>by cases he⟩
   | mp o2 =>
     obtain⟨k,v,x,d,g,z1,z2,z3,z5,z6,z7⟩:=hB
     subst z1
     refine⟨rfl,(z7.mono (fun o h=>(hk o).2 h) ⟨_,hr⟩ (fun _ _=>⟨rfl,rfl,rfl⟩) rfl fun _ _ _ _ _ _ he=>by cases he).congrObj fun _ _ _ _ _ _ he=>by cases he⟩
 · obtain⟨r,hr,hB⟩:=hb o ob ho
   rcases hB.root with⟨_,e1⟩|⟨q,g,p,x1,x2,x3,x4,x5,x6⟩
   ·rw[e1]at hf;exact hf.elim
   · refine⟨q,g,p,?_,x2,x3,(x6 hown).1,x5 b x hf⟩
     have hmem:(o,ob)∈obs:=zam ho
     simp only[passedOf,List.mem_filterMap]
     refine⟨(o,ob),hmem,?_⟩
     simp only[hown,if_true,hr]
     have h6:=(x6 hown).2
     cases r with
     |sl o2 _ _=>simp only at h6 ⊢;rw[h6]
     |bx o2=>simp only at h6 ⊢;rw[h6]
     |mp o2=>simp only at h6 ⊢;rw[h6]
     |nil=>simp[rootRef]at x1
theorem zgf (h:Rel tab Γ ρ tm w C kn Wr w0){a:Acc}{C':Ctx}(hinv:Inv tab Γ G ρ ρ' w C obs a C')(hab:allBound obs a.th=true)(hco:chkOwn Γ obs a.th=true) :
 (∀o,kIn obs o↔kOf a o) /\
 (∀o ob,look o obs=some ob->∃r,look o a.th=some r/\Bound tab Γ ρ ρ' w (G:=G) C C' (kOf a) o ob r) /\
 (∀o ob,look o obs=some ob->ob.isView=false/\ObRel tab C' (kIn obs) ρ' noGam w o ob) /\
 (∀o1 o2 ob1 ob2,look o1 obs=some ob1->look o2 obs=some ob2->o1≠o2->ob1.owned=true->Disj (C'.F o1) (C'.F o2)) /\
 (∀o ob,look o obs=some ob->ob.owned=true->∀b x,C'.F o b x->∃q g obq,q∈passedOf obs a.th/\Γ.obj q=some (g,obq)/\holdsG ρ g/\obq.owned=true/\C.F q b x):=by
 obtain⟨k1,k2,k3,k5⟩:=zg2 h hinv hab
 refine⟨k1,k2,k3,fun o1 o2 ob1 ob2 ho1 ho2 hne hown=>?_,k5⟩
 obtain⟨r1,hr1,hB1⟩:=k2 o1 ob1 ho1
 obtain⟨r2,hr2,hB2⟩:=k2 o2 ob2 ho2
 refine hB1.dis h hB2 hown fun q x1 y1=>?_
 simp only[chkOwn,List.all_eq_true]at hco
 have:=hco _ (zam ho1)
 simp only[hown,Bool.not_true,Bool.false_or,hr1,x1,List.all_eq_true]at this
 have:=this _ (zam hr2)
 simp only[y1,Nat.beq_refl,Bool.not_true,Bool.or_false]at this
 exact hne (Nat.eq_of_beq_eq_true this).symm
theorem zg8 (hn:keysNodup obs=true)(h:Rel tab Γ ρ tm w C kn Wr w0){a:Acc}{C':Ctx}(hinv:Inv tab Γ G ρ ρ' w C obs a C')(hab:allBound obs a.th=true)(hco:chkOwn Γ obs a.th=true) :
 ∀q∈passedOf obs a.th,∃g ob,Γ.obj q=some (g,ob)/\holdsG ρ g/\ob.owned=true:=by
 have hlook : ∀ (l : Obs), keysNodup l = true -> ∀ o ob, (o, ob) ∈ l -> look o l = some ob := by
  intro l
  induction l with
  |nil=>intro _ o ob h;simp at h
  | cons p l ih =>
    obtain⟨k,x⟩:=p
    intro hnd o ob hm
    simp only[keysNodup,Bool.and_eq_true]at hnd
    rcases List.mem_cons.1 hm with e|hm
    ·cases e;exact zag
    · have hl:=ih hnd.2 o ob hm
      have:k≠o:=by
       rintro rfl
       rw[hl]at hnd;simp at hnd
      rw[zaj this];exact hl
 intro q hq
 simp only[passedOf,List.mem_filterMap]at hq
 obtain⟨⟨o,ob⟩,hm,hq⟩:=hq
 split at hq
 case isFalse=>cases hq
 rename_i hown
 obtain⟨r,hr,hB⟩:=(zgf h hinv hab hco).2.1 o ob (hlook obs hn o ob hm)
 simp only[hr]at hq
 rcases hB.root with⟨e1,_⟩|⟨q1,g1,p1,x1,x2,x3,x4,x5,x6⟩
 · cases r with
   |nil=>simp at hq
   |sl=>simp[rootRef]at e1
   |bx=>simp[rootRef]at e1
   |mp=>simp[rootRef]at e1
 · obtain⟨x7,x8⟩:=x6 hown
   cases r with
   |nil=>simp at hq
   |sl o2 _ _=>simp at hq x8;subst hq;subst x8;exact⟨g1,p1,x2,x3,x7⟩
   |bx o2=>simp at hq x8;subst hq;subst x8;exact⟨g1,p1,x2,x3,x7⟩
   |mp o2=>simp at hq x8;subst hq;subst x8;exact⟨g1,p1,x2,x3,x7⟩
end
end Gp
namespace Gp
open Go
theorem zbJ {sg:List (Nat × Exp)}:∀{n x:Nat} {es:List Exp},sgArgs sg n x=some es->es.length=n/\∀j,j<n->∃e,look (x+j) sg=some e/\es[j]? = some e
 |0,x,es,h=>by cases h;exact⟨rfl,fun j hj=>by omega⟩
 | n + 1, x, es, h => by
   simp only[sgArgs]at h
   split at h
   · rename_i e es' h1 h2
     cases h
     obtain⟨h3,h4⟩:=zbJ h2
     refine⟨by simp[h3],fun j hj=>?_⟩
     cases j with
     |zero=>exact⟨e,h1,rfl⟩
     | succ j =>
       obtain⟨e',h5,h6⟩:=h4 j (by omega)
       exact⟨e',by rw[<- h5];congr 1;omega,by simpa using h6⟩
   ·cases h
theorem zbz {obs:Obs}:∀{l:List (Nat × Obj)} {n o q:Nat},newAt obs l n o=some q->n<=q/\q<n+newCount obs l
 |[],n,o,q,h=>by simp[newAt]at h
 | (k, x) :: r, n, o, q, h => by
   simp only[newAt]at h
   simp only[newCount]
   split at h
   ·rename_i hs;rw[if_pos hs];exact zbz h
   · rename_i hs
     rw[if_neg hs]
     split at h
     ·cases h;omega
     ·have:=zbz h;omega
theorem zdi {obs:Obs}:∀{l:List (Nat × Obj)} {n o1 o2 q:Nat},newAt obs l n o1=some q->newAt obs l n o2=some q->o1=o2
 |[],n,_,_,q,h,_=>by simp[newAt]at h
 | (k, x) :: r, n, o1, o2, q, h1, h2 => by
   simp only[newAt]at h1 h2
   split at h1
   ·rename_i hs;rw[if_pos hs]at h2;exact zdi h1 h2
   · rename_i hs
     rw[if_neg hs]at h2
     split at h1
     · rename_i e1
       split at h2
       · rename_i e2
         rw[<- Nat.eq_of_beq_eq_true e1,<- Nat.eq_of_beq_eq_true e2]
       ·cases h1;have:=zbz h2;omega
     · split at h2
       ·cases h2;have:=zbz h1;omega
       ·exact zdi h1 h2
theorem zcY {obs:Obs}:∀{l:List (Nat × Obj)} {n o q:Nat},newAt obs l n o=some q->look o obs=none/\∃ob,look o l=some ob
 |[],n,o,q,h=>by simp[newAt]at h
 | (k, x) :: r, n, o, q, h => by
   simp only[newAt]at h
   by_cases e:k=o
   · subst e
     split at h
     · rename_i hs
       have:=(zcY h).1
       rw[this]at hs;cases hs
     · rename_i hs
       exact⟨by cases hq:look k obs with|none=>rfl|some y=>rw[hq]at hs;simp at hs,x,zag⟩
   · rw[zaj e]
     split at h
     ·exact zcY h
     ·rw[if_neg (by simpa using e)]at h;exact zcY h
inductive BackIs(S:Sig)(G:Grd)(th:List (Nat × Ref))(no z:Nat)(q o':Nat):Obj->Grd->Obj->Prop where
 |row {off len:Exp} {et:TypeId} {y:Nat} {x:Obj}:look o' S.obs=some x->x.owned=true->look o' th=some (.sl q off len)->y<S.nout->BackIs S G th no z q o' (.row true et (.var y)) [] (.row true et (.var (z+y)))
 |box {cells cs:List Leaf} {x:Obj}:look o' S.obs=some x->x.owned=true->look o' th=some (.bx q)->cells.mapM (backLeaf S th no z)=some cs->BackIs S G th no z q o' (.box true cells) [] (.box true cs)
 |map {k v:CK} {y:Nat} {x:Obj}:look o' S.obs=some x->x.owned=true->look o' th=some (.mp q)->y<S.nout->BackIs S G th no z q o' (.map k v (.var y)) [] (.map k v (.var (z+y)))
 |nbox {cells cs:List Leaf}:look o' S.obs=none->newAt S.obs S.oobs no o'=some q->cells.mapM (backLeaf S th no z)=some cs->BackIs S G th no z q o' (.box true cells) G (.box true cs)
 |new {et:TypeId} {y:Nat}:look o' S.obs=none->newAt S.obs S.oobs no o'=some q->y<S.nout->BackIs S G th no z q o' (.row true et (.var y)) G (.row true et (.var (z+y)))
theorem zhm {S:Sig}{G:Grd}{th:List (Nat × Ref)}{no z o':Nat}{ob:Obj}{q o2:Nat}{g:Grd}{x:Obj}(h:backOb S G th no z o' ob=some (some (q,o2,g,x))):o2=o'/\BackIs S G th no z q o' ob g x:=by
 unfold backOb at h
 split at h
 · rename_i y hy
   split at h
   case isFalse=>cases h
   rename_i how
   split at h
   · rename_i o off len et v ht
     split at h
     ·rename_i hv;cases h;exact⟨rfl,.row hy how ht (Nat.le_of_ble_eq_true hv)⟩
     ·cases h
   ·cases h
   · rename_i o cells ht
     split at h
     ·rename_i cs hc;cases h;exact⟨rfl,.box hy how ht hc⟩
     ·cases h
   · rename_i o k v y2 ht
     split at h
     ·rename_i hv;cases h;exact⟨rfl,.map hy how ht (Nat.le_of_ble_eq_true hv)⟩
     ·cases h
   ·cases h
 · rename_i hy
   split at h
   · rename_i et v n hn
     split at h
     ·rename_i hv;cases h;exact⟨rfl,.new hy hn (Nat.le_of_ble_eq_true hv)⟩
     ·cases h
   · rename_i cells n hn
     split at h
     ·rename_i cs hc;cases h;exact⟨rfl,.nbox hy hn hc⟩
     ·cases h
   ·cases h
theorem zcd {S:Sig}{G:Grd}{th:List (Nat × Ref)}{no z:Nat}:∀{l:List (Nat × Obj)} {L:BackL},backObs S G th no z l=some L->∀q o' g x,(q,o',g,x)∈L->∃ob,(o',ob)∈l/\BackIs S G th no z q o' ob g x
 |[],L,h,q,o',g,x,hm=>by cases h;simp at hm
 | (k, ob) :: r, L, h, q, o', g, x, hm => by
   simp only[backObs]at h
   split at h
   · rename_i y l h1 h2
     cases h
     rcases List.mem_cons.1 hm with e|hm
     · subst e
       obtain⟨rfl,h3⟩:=zhm h1
       exact⟨ob,by simp,h3⟩
     · obtain⟨ob',h3,h4⟩:=zcd h2 q o' g x hm
       exact⟨ob',List.mem_cons_of_mem _ h3,h4⟩
   · rename_i l h1 h2
     cases h
     obtain⟨ob',h3,h4⟩:=zcd h2 q o' g x hm
     exact⟨ob',List.mem_cons_of_mem _ h3,h4⟩
   ·cases h
theorem zfb {l:List (Nat × Obj)}(hn:keysNodup l=true):∀{o:Nat} {ob:Obj},(o,ob)∈l->look o l=some ob:=by
 induction l with
 |nil=>intro o ob h;simp at h
 | cons p l ih =>
   obtain⟨k,x⟩:=p
   intro o ob hm
   simp only[keysNodup,Bool.and_eq_true]at hn
   rcases List.mem_cons.1 hm with e|hm
   ·cases e;exact zag
   · have hl:=ih hn.2 hm
     have:k≠o:=by
      rintro rfl
      rw[hl]at hn;simp at hn
     rw[zaj this];exact hl
theorem zbR {α β:Type}(f:α->β)(k:Nat):∀l:List (Nat × α),look k (l.map fun p=>(p.1,f p.2))=(look k l).map f
 |[]=>rfl
 | (q, x) :: r => by
   simp only[List.map_cons,look]
   split
   ·rfl
   ·exact zbR f k r
section
variable {tab:Tab}{Γ:Gam}{ρ ρ':Env}{tm:Array Value}{w w':World}{C C1 Cx:Ctx}{kn kn':Kn}{Wr:CS}{w0:World}{P:Program}{I:Nat->List T->List T->Prop}{G:Grd}{nx no nb:Nat}{obs:Obs}{S:Sig}
noncomputable def backCtx(kn:Kn)(C Cx:Ctx)(L:BackL):Ctx :=
 open Classical in
 { A := fun q => if kn.o q then C.A q else match look q L with | some y => Cx.A y.1 | none => C.A q
   N:=fun q=>if kn.o q then C.N q else match look q L with|some y=>Cx.N y.1|none=>C.N q
   K:=fun q=>if kn.o q then C.K q else match look q L with|some y=>Cx.K y.1|none=>C.K q
   F:=fun q=>match look q L with|some y=>Cx.F y.1|none=>C.F q }
theorem zdG {th:List (Nat × Ref)}{c o:Nat}(h:backBox th c=some o):look c th=some (.bx o):=by
 unfold backBox at h
 split at h
 ·cases h;assumption
 ·cases h
theorem zgr {th:List (Nat × Ref)}{c o:Nat}(h:backMap th c=some o):look c th=some (.mp o):=by
 unfold backMap at h
 split at h
 ·cases h;assumption
 ·cases h
structure BackOk(tab:Tab)(S:Sig)(th:List (Nat × Ref))(no z:Nat)(outs:List T)(ρ:Env)(C Cx Cc:Ctx)(kn':Kn):Prop where
 vars:∀e:Exp,e.bnd S.nout=true->den ρ (e.shift z)=den (envOf outs) e
 sl:∀o' o off0 len0 rw et d,look o' S.obs=some (.row rw et d)->look o' th=some (.sl o off0 len0)->kn'.o o/\∃m0 n0 c0,den ρ off0 = .int (m0:Nat)/\(den ρ len0 = .int (n0:Nat)/\n0<=c0/\Cx.N o'=n0)/\Cx.K o'=c0/\m0+n0<=Cc.N o/\m0+c0=Cc.K o /\
  (c0=0\/∃b base,Cc.A o=some ⟨b,base,none⟩/\Cx.A o'=some ⟨b,base+m0*tab.sz et,none⟩)
 bx:∀o' o,look o' th=some (.bx o)->kn'.o o/\Cc.A o=Cx.A o'
 mp:∀o' o,look o' th=some (.mp o)->kn'.o o/\Cc.A o=Cx.A o'
 new:∀o' q,newAt S.obs S.oobs no o'=some q->kn'.o q/\Cc.A q=Cx.A o'/\Cc.N q=Cx.N o'/\Cc.K q=Cx.K o'
theorem zaR {th:List (Nat × Ref)}{z:Nat}{outs:List T}{Cc:Ctx}(hb:BackOk tab S th no z outs ρ C Cx Cc kn'){k:Nat->Prop}{l l2:Leaf}{v:Value}(hl:LeafRel tab Cx k (envOf outs) l v)(h:backLeaf S th no z l=some l2) :
 LeafRel tab Cc kn'.o ρ l2 v:=by
 cases l with
 |dead=>cases h;trivial
 |nil=>cases h;exact hl
 | int kk e =>
   simp only[backLeaf]at h
   split at h
   · rename_i he;cases h
     obtain⟨n,h1,h2⟩:=hl
     exact⟨n,by rw[hb.vars e he];exact h1,h2⟩
   ·cases h
 | bool e =>
   simp only[backLeaf]at h
   split at h
   · rename_i he;cases h
     obtain⟨n,h1,h2⟩:=hl
     exact⟨n,by rw[hb.vars e he];exact h1,h2⟩
   ·cases h
 | str e =>
   simp only[backLeaf]at h
   split at h
   · rename_i he;cases h
     obtain⟨n,h1,h2⟩:=hl
     exact⟨n,by rw[hb.vars e he];exact h1,h2⟩
   ·cases h
 | sl o' et off len =>
   simp only[backLeaf]at h
   split at h
   case isFalse=>cases h
   rename_i he
   simp only[Bool.and_eq_true]at he
   obtain⟨he1,he2⟩:=he
   obtain⟨hk,m,n,a,c,h1,h2,h3,h4,h5,h6,h7⟩:=hl
   have h1':den ρ (off.shift z) = .int m:=by rw[hb.vars off he1];exact h1
   have h2':den ρ (len.shift z) = .int n:=by rw[hb.vars len he2];exact h2
   split at h
   · rename_i rw et2 d ho
     split at h
     · rename_i o off0 len0 ht
       split at h
       case isFalse=>cases h
       rename_i hee
       cases h
       subst hee
       obtain⟨q1,m0,n0,c0,q2,⟨_,_,q3⟩,q4,q5,q6,q7⟩:=hb.sl o' o off0 len0 rw et2 d ho ht
       refine⟨q1,m0+m,n,a,c,?_,h2',h3,by omega,h5,by omega,?_⟩
       ·rw[zcM q2 h1'];simp
       · rcases h7 with h7|⟨b,base,h7,h8⟩
         ·exact .inl h7
         · rcases q7 with q7|⟨b2,base2,q7,q8⟩
           ·exact .inl (by omega)
           · rw[q8]at h7;cases h7
             refine .inr ⟨_,_,q7,?_⟩
             rw[h8,Nat.add_mul]
             congr 2;omega
     ·cases h;trivial
   ·cases h;trivial
   · split at h
     · rename_i q hq
       cases h
       obtain⟨q1,q2,q3,q4⟩:=hb.new o' q hq
       exact⟨q1,m,n,a,c,h1',h2',h3,by rw[q3];exact h4,h5,by rw[q4];exact h6,by rw[q2];exact h7⟩
     ·cases h;trivial
 | slw o' et =>
   simp only[backLeaf]at h
   obtain⟨hk,a,h3,h7⟩:=hl
   split at h
   · rename_i rw et2 d ho
     split at h
     · rename_i o off0 len0 ht
       split at h
       case isFalse=>cases h
       rename_i hee
       cases h
       subst hee
       obtain⟨q1,m0,n0,c0,q2,⟨q8,q9,q3⟩,q4,q5,q6,q7⟩:=hb.sl o' o off0 len0 rw et2 d ho ht
       refine⟨q1,m0,n0,a,c0,q2,q8,by rw[h3,q3,q4],q5,q9,q6,?_⟩
       rcases h7 with h7|⟨b,base,h7,h8⟩
       ·exact .inl (by omega)
       · rcases q7 with q7|⟨b2,base2,q7,q10⟩
         ·exact .inl q7
         · rw[q10]at h7;cases h7
           exact .inr ⟨_,_,q7,h8⟩
     ·cases h;trivial
   ·cases h;trivial
   · split at h
     · rename_i q hq
       cases h
       obtain⟨q1,q2,q3,q4⟩:=hb.new o' q hq
       exact⟨q1,a,by rw[q3,q4];exact h3,by rw[q2,q4];exact h7⟩
     ·cases h;trivial
 | pb o' j =>
   simp only[backLeaf]at h
   split at h
   · rename_i o ho
     cases h
     obtain⟨q1,q2⟩:=hb.bx o' o (zdG ho)
     obtain⟨hk,b,base,h1,h2⟩:=hl
     exact⟨q1,b,base,by rw[q2];exact h1,h2⟩
   ·cases h
 | mp o' =>
   simp only[backLeaf]at h
   split at h
   · rename_i o ho
     cases h
     obtain⟨q1,q2⟩:=hb.mp o' o (zgr ho)
     obtain⟨hk,r,h1,h2⟩:=hl
     exact⟨q1,r,by rw[q2];exact h1,h2⟩
   ·cases h
 |pe=>cases h
 | fn f caps =>
   simp only[backLeaf]at h
   split at h
   · rename_i cs hc
     cases h
     obtain⟨vs,h1,h2,h3⟩:=hl
     obtain⟨c1,c2⟩:=zaI hc
     refine⟨vs,h1,by omega,fun i o hi=>?_⟩
     obtain⟨c,h4,h5⟩:=c2 i o hi
     obtain⟨hk,b,base,h6,h7⟩:=h3 i c h4
     have hq:kn'.o o/\Cc.A o=Cx.A c:=by
      unfold backCap at h5
      split at h5
      ·rename_i o2 ho2;cases h5;exact hb.bx c o (zdG ho2)
      ·obtain⟨q1,q2,_⟩:=hb.new c o h5;exact⟨q1,q2⟩
     obtain⟨q1,q2⟩:=hq
     exact⟨q1,b,base,by rw[q2];exact h6,h7⟩
   ·cases h
theorem zdL {th:List (Nat × Ref)}{z:Nat}{outs:List T}{Cc:Ctx}(hb:BackOk tab S th no z outs ρ C Cx Cc kn'){k:Nat->Prop}{x x2:S1}{v:Value}(hl:S1Rel tab Cx k (envOf outs) x v)(h:backS1 S th no z x=some x2) :
 S1Rel tab Cc kn'.o ρ x2 v:=by
 cases x with
 | one l =>
   simp only[backS1]at h
   split at h
   ·cases h
   · rename_i l2 _ h2
     cases h
     exact⟨zaR hb hl.1 h2,hl.2⟩
   ·cases h
 | agg ls =>
   simp only[backS1]at h
   split at h
   · rename_i ls2 h2
     cases h
     obtain⟨vs,rfl,h3,h4⟩:=hl
     obtain⟨c1,c2⟩:=zaI h2
     refine⟨vs,rfl,by omega,fun i l hi=>?_⟩
     obtain⟨l1,h5,h6⟩:=c2 i l hi
     obtain⟨u,h7,h8⟩:=h4 i l1 h5
     exact⟨u,h7,zaR hb h8 h6⟩
   ·cases h
end
end Gp
namespace Gp
open Go
section
variable {tab:Tab}{Γ:Gam}{ρ ρ':Env}{tm:Array Value}{w w':World}{C C1 Cx:Ctx}{kn kn':Kn}{Wr:CS}{w0:World}{P:Program}{I:Nat->List T->List T->Prop}{G:Grd}{nx no nb:Nat}{obs:Obs}{S:Sig}
theorem zbO:∀(ms:List Nat) (Γ:Gam) {o:Nat},o∈ms->(Γ.appOb (dels ms)).obj o=none:=by
 intro ms Γ o ho
 cases hx:(Γ.appOb (dels ms)).obj o with
 |none=>rfl
 |some x=>exact absurd ho (zb6 ms Γ hx).1
theorem zcy:∀(ms:List Nat) (Γ:Gam) {o:Nat},Γ.obj o=none->(Γ.appOb (dels ms)).obj o=none:=by
 intro ms Γ o ho
 cases hx:(Γ.appOb (dels ms)).obj o with
 |none=>rfl
 |some x=>rw[(zb6 ms Γ hx).2]at ho;cases ho
theorem zar:∀(l:List (Nat × Option (Grd × Obj))) (Γ:Gam) (t:Nat),(Γ.appOb l).get t=Γ.get t
 |[],_,_=>rfl
 |(o,some x)::r,Γ,t=>by simp only[Gam.appOb];rw[zar r];rfl
 |(o,none)::r,Γ,t=>by simp only[Gam.appOb];rw[zar r];rfl
theorem zd6 {o' q:Nat}{ob:Obj}{th:List (Nat × Ref)}(ho:look o' obs=some ob)(how:ob.owned=true)(ht:(∃off len,look o' th=some (.sl q off len))\/(look o' th=some (.bx q)\/look o' th=some (.mp q))):q∈passedOf obs th:=by
 simp only[passedOf,List.mem_filterMap]
 refine⟨(o',ob),zam ho,?_⟩
 simp only[how,if_true]
 rcases ht with⟨off,len,ht⟩|ht|ht<;>rw[ht]
theorem BackIs.owned{th:List (Nat × Ref)}{z q o':Nat}{g:Grd}{ob x:Obj}(h:BackIs S G th no z q o' ob g x):ob.owned=true/\x.owned=true/\x.isView=false/\ob.isView=false:=by
 cases h<;>exact⟨rfl,rfl,rfl,rfl⟩
theorem zgB (hT : TabOk P tab) (h : Rel tab Γ ρ tm w C kn Wr w0) (hG : holdsG ρ G) {i : Nat} {xs : List S1} {r : Res} (hr : anCall tab S i Γ G nx no xs = some r)
 (hI:∀ds outs,I i ds outs->Contract P tab S ds outs) (hS:HoldsS I ρ r.sis) (hfo:∀o,no<=o->o<r.no->¬kn.o o) (hfx:∀x,nx<=x->x<r.nx->¬kn.v x)
 {args:Array Value} (hsz:args.size=xs.length) (harg:∀(j:Nat) x,xs[j]? = some x->∃v,args[j]? = some v/\S1Rel tab C kn.o ρ x v) :
 Calls P S.f args w fun e w'=>∃v,e = .returned v/\Post tab Γ ρ tm C kn Wr w0 nx no r v w':=by
 unfold anCall at hr
 split at hr
 case h_2=>cases hr
 rename_i a ha
 split at hr
 case isFalse=>cases hr
 rename_i hc
 simp only[Bool.and_eq_true,Bool.or_eq_true,List.isEmpty_iff]at hc
 obtain⟨⟨⟨⟨⟨hab,hco⟩,hkw⟩,hnd1⟩,hnd2⟩,hsg⟩:=hc
 split at hr
 case h_2=>cases hr
 rename_i es L ys hes hL hys
 cases hr
 -- the data that go in
 obtain⟨outs,hIo,hlen,hvar⟩:=hS (G,.call i es nx S.nout) (by simp) hG
 have hcon:=hI _ _ hIo
 obtain⟨e1,e2⟩:=zbJ hes
 have hsg':∀x e,look x a.sg=some e->envOf (es.map (den ρ)) x=den ρ e:=by
  intro x e hx
  simp only[List.all_eq_true]at hsg
  have hlt:x<S.nin:=Nat.le_of_ble_eq_true (hsg _ (zam hx))
  obtain⟨e',h1,h2⟩:=e2 x hlt
  rw[Nat.zero_add,hx]at h1;cases h1
  simp only[envOf,List.getD_eq_getElem?_getD,List.getElem?_map,h2];rfl
 obtain⟨C1,st,hl1,hl2⟩:=zcp (nb:=0) (ρ':=envOf (es.map (den ρ))) (C':=C) hT h hG (fun x hx=>by omega) (fun j v=>args[j]? = some v) ha harg Inv.empty hsg'
 obtain⟨hk,hbd,hob,hds,hps⟩:=zgf h st.inv hab hco
 have hent:EntryRel tab S (envOf (es.map (den ρ))) args w C1:=by
  refine⟨by rw[hsz,hl1],fun j x hj=>?_,hob,hds⟩
  obtain⟨v,h1,h2⟩:=hl2 j x hj
  exact⟨v,h1,h2.mono (fun o ho=>(hk o).2 ho) fun _ _=>⟨rfl,rfl,rfl⟩⟩
 refine Calls.mono (hcon args w C1 hent) ?_
 rintro e w' ⟨v,Cx,rfl,out⟩
 refine⟨v,rfl,?_⟩
 -- what is passed
 have hpo:=zg8 hnd2 h st.inv hab hco
 have hWr:∀b x,WrOf S.obs C1 b x->∃q∈passedOf S.obs a.th,C.F q b x:=by
  rintro b x ⟨o,ob,h1,h2,h3⟩
  obtain⟨q,g,obq,q1,q2,q3,q4,q5⟩:=hps o ob h1 h2 b x h3
  exact⟨q,q1,q5⟩
 have hdel:=h.turnedDel hpo out.trn hWr
 -- the back list
 have hLs:∀q o' g x,look q L=some (o',g,x)->∃ob,look o' S.oobs=some ob/\BackIs S G a.th no nx q o' ob g x:=by
  intro q o' g x hq
  obtain⟨ob,h1,h2⟩:=zcd hL q o' g x (zam hq)
  exact⟨ob,zfb hnd1 h1,h2⟩
 have hoin:∀o' ob x,look o' S.obs=some x->look o' S.oobs=some ob->ob.owned=true->True:=fun _ _ _ _ _ _=>trivial
 -- an entry object that is bound, and its caller's object
 have hslb:∀o' q off len,look o' a.th=some (.sl q off len)->kn.o q:=by
  intro o' q off len ht
  obtain⟨ob,h1,hB⟩:=st.inv o' _ ht
  obtain⟨dp,et,x,ti,rows,m,n,c,root,gr,obr,d,z1,z2,z3,z4,z5,z6,z7,z8,z9,z10,z11,z12,z13,z14,z15,z16,z17,z18,⟨dp2,vw,z19⟩,z20⟩:=hB
  unfold rowOf at z19
  split at z19
  ·rename_i ho;exact (h.obs q _ _ ho).1
  ·rename_i ho;exact (h.obs q _ _ ho).1
  ·cases z19
 have hbxb:∀o' q,look o' a.th=some (.bx q)->kn.o q/\C1.A o'=C.A q:=by
  intro o' q ht
  obtain⟨ob,h1,hB⟩:=st.inv o' _ ht
  obtain⟨rw',rwc,cells',cells,g,z1,z2,z3,z4,z5,z6,z7⟩:=hB
  exact⟨(h.obs q _ _ z2).1,z5.1⟩
 have hmpb:∀o' q,look o' a.th=some (.mp q)->kn.o q/\(C1.A o'=C.A q/\C1.N o'=C.N q/\C1.K o'=C.K q):=by
  intro o' q ht
  obtain⟨ob,h1,hB⟩:=st.inv o' _ ht
  obtain⟨k',v',x',d',g,z1,z2,z3,z4,z5,z6⟩:=hB
  exact⟨(h.obs q _ _ z2).1,z4⟩
 have hthin:∀o' rf,look o' a.th=some rf->kIn S.obs o':=fun o' rf ht=>(hk o').2 ⟨rf,ht⟩
 let kn2:Kn:=⟨fun o=>kn.o o\/(no<=o/\o<no+newCount S.obs S.oobs),fun x=>kn.v x\/(nx<=x/\x<nx+S.nout)⟩
 let Cc:=backCtx kn C Cx L
 have hold:∀o,kn.o o->Cc.A o=C.A o/\Cc.N o=C.N o/\Cc.K o=C.K o:=by
  intro o ho
  simp only[Cc,backCtx,if_pos ho,and_self]
 have hFL:∀q o' g x,look q L=some (o',g,x)->Cc.F q=Cx.F o':=by
  intro q o' g x hq
  simp only[Cc,backCtx,hq]
 have hFn:∀q,look q L=none->Cc.F q=C.F q:=by
  intro q hq
  simp only[Cc,backCtx,hq]
 have hnewk:∀o' q,newAt S.obs S.oobs no o'=some q->¬kn.o q:=by
  intro o' q hq
  obtain⟨h1,h2⟩:=zbz hq
  exact hfo q h1 h2
 -- a new object is in the list
 have hnewA : ∀ o' q, newAt S.obs S.oobs no o' = some q -> Cc.A q = Cx.A o' /\ Cc.N q = Cx.N o' /\ Cc.K q = Cx.K o' := by
  intro o' q hq
  obtain⟨h1,ob,h2⟩:=zcY hq
  have hin:∃g x,look q L=some (o',g,x):=by
   -- what the list holds for o'
   have : ∀ (l : List (Nat × Obj)) (L : BackL), backObs S G a.th no nx l = some L -> ∀ ob, (o', ob) ∈ l -> ∃ y, look q L = some y := by
    intro l
    induction l with
    |nil=>intro L _ ob hm;simp at hm
    | cons p l ih =>
      obtain⟨k,ob1⟩:=p
      intro L hL ob hm
      simp only[backObs]at hL
      rcases List.mem_cons.1 hm with e|hm
      · cases e
        split at hL
        · rename_i y l' h3 h4
          cases hL
          obtain⟨q',o2,g,x⟩:=y
          have hbb:=h3
          unfold backOb at hbb
          rw[h1]at hbb
          simp only at hbb
          rw[hq]at hbb
          split at hbb
          · rename_i et v n hn
            cases hn
            split at hbb
            ·cases hbb;exact⟨_,zag⟩
            ·cases hbb
          · rename_i cells n hn
            cases hn
            split at hbb
            ·cases hbb;exact⟨_,zag⟩
            ·cases hbb
          ·cases hbb
        · rename_i l' h3 h4
          unfold backOb at h3
          rw[h1]at h3
          simp only at h3
          split at h3
          ·split at h3<;>cases h3
          ·split at h3<;>cases h3
          ·cases h3
        ·cases hL
      · split at hL
        · rename_i y l' h3 h4
          cases hL
          obtain⟨z,hz⟩:=ih l' h4 ob hm
          by_cases e:y.1=q
          · obtain⟨y1,y2⟩:=y
            simp only at e;subst e
            exact⟨_,zag⟩
          · obtain⟨y1,y2⟩:=y
            exact⟨z,by rw[zaj e];exact hz⟩
        · rename_i l' h3 h4
          cases hL
          exact ih _ h4 ob hm
        ·cases hL
   obtain⟨⟨o2,g,x⟩,hy⟩:=this S.oobs L hL ob (zam h2)
   obtain⟨ob2,h3,h4⟩:=hLs q o2 g x hy
   refine⟨g,x,?_⟩
   cases h4 with
   |row a1 a0 a2 a3=>exact absurd (hslb _ _ _ _ a2) (hnewk _ _ hq)
   |box a1 a0 a2 a3=>exact absurd (hbxb _ _ a2).1 (hnewk _ _ hq)
   |map a1 a0 a2 a3=>exact absurd (hmpb _ _ a2).1 (hnewk _ _ hq)
   |nbox a1 a2 a3=>rw[zdi hq a2];exact hy
   |new a1 a2 a3=>rw[zdi hq a2];exact hy
  obtain⟨g,x,hy⟩:=hin
  have hn:=hnewk o' q hq
  simp only[Cc,backCtx,if_neg hn,hy,and_self]
 have hbk:BackOk tab S a.th no nx outs ρ C Cx Cc kn2:=by
  refine⟨zbw hvar hlen,?_,?_,?_,?_⟩
  · intro o' o off0 len0 rw' et d ho ht
    have hko:=hslb o' o off0 len0 ht
    refine⟨.inl hko,?_⟩
    obtain⟨ob,h1,hB⟩:=st.inv o' _ ht
    rw[ho]at h1;cases h1
    obtain⟨dp,et',x,ti,rows,m,n,c,root,gr,obr,d',z1,z2,z3,z4,z5,z6,z7,z8,z9,z10,z11,z12,z13,z14,z15,z16,z17,z18,z19,z20⟩:=hB
    cases z1
    obtain⟨s1,s2,s3⟩:=out.same o' (hthin o' _ ht)
    obtain⟨t1,t2,t3⟩:=hold o hko
    refine⟨m,n,c,z11,⟨z12,z16,by rw[s2,z13]⟩,by rw[s3,z14],by rw[t2];exact z15,by rw[t3];exact z17,?_⟩
    rw[t1,s1];exact z18
  · intro o' o ht
    obtain⟨q1,q2⟩:=hbxb o' o ht
    exact⟨.inl q1,by rw[(hold o q1).1,(out.same o' (hthin o' _ ht)).1,q2]⟩
  · intro o' o ht
    obtain⟨q1,q2,_⟩:=hmpb o' o ht
    exact⟨.inl q1,by rw[(hold o q1).1,(out.same o' (hthin o' _ ht)).1,q2]⟩
  · intro o' q hq
    exact⟨.inr (zbz hq),hnewA o' q hq⟩
 have hkle:kn.le kn2:=⟨fun _=>.inl,fun _=>.inl⟩
 -- kept rows lie where they lay
 have hrowA:∀o' q off len x et y,look o' S.obs=some x->x.owned=true->look o' a.th=some (.sl q off len)->look o' S.oobs=some (.row true et y)->Cx.A o'=C.A q/\Cx.N o'=C.N q/\Cx.K o'=C.K q:=by
  intro o' q off len x et y ho how ht hoo
  obtain⟨ob,h1,hB⟩:=st.inv o' _ ht
  rw[ho]at h1;cases h1
  obtain⟨dp,et',x',ti,rows,m,n,c,root,gr,obr,d',z1,z2,z3,z4,z5,z6,z7,z8,z9,z10,z11,z12,z13,z14,z15,z16,z17,z18,⟨dp2,vw,z19⟩,z20⟩:=hB
  obtain⟨s1,s2,s3⟩:=out.same o' (hthin o' _ ht)
  simp only[keptWhole,List.all_eq_true]at hkw
  have:=hkw _ (zam ho)
  simp only[how,hoo,ht,z19,Bool.not_true,Option.isNone_some,Bool.false_or]at this
  obtain⟨y1,y2,y3⟩:=z20 this
  exact⟨s1.trans y1,s2.trans y2,s3.trans y3⟩
 let L2:List (Nat × (Grd × Obj)):=L.map fun p=>(p.1,p.2.2)
 have hL2:∀q g x,look q L2=some (g,x)->∃o' ob,look q L=some (o',g,x)/\look o' S.oobs=some ob/\BackIs S G a.th no nx q o' ob g x:=by
  intro q g x hq
  rw[show look q L2=(look q L).map _ from zbR _ q L]at hq
  cases hy:look q L with
  |none=>rw[hy]at hq;cases hq
  | some y =>
    obtain⟨o',g',x'⟩:=y
    rw[hy]at hq
    cases hq
    obtain⟨ob,h1,h2⟩:=hLs q o' g x hy
    exact⟨o',ob,rfl,h1,h2⟩
 have hL2n:∀q,look q L2=none->look q L=none:=by
  intro q hq
  rw[show look q L2=(look q L).map _ from zbR _ q L]at hq
  cases hy:look q L with
  |none=>rfl
  |some y=>rw[hy]at hq;cases hq
 have habs:∀q x,look q L2=some x->(Γ.appOb (dels (passedOf S.obs a.th))).obj q=none:=by
  rintro q ⟨g,x⟩ hq
  obtain⟨o',ob,h1,h2,h3⟩:=hL2 q g x hq
  cases h3 with
  |row a1 a0 a2 a3=>exact zbO _ _ (zd6 a1 a0 (.inl ⟨_,_,a2⟩))
  |box a1 a0 a2 a3=>exact zbO _ _ (zd6 a1 a0 (.inr (.inl a2)))
  |map a1 a0 a2 a3=>exact zbO _ _ (zd6 a1 a0 (.inr (.inr a2)))
  | nbox a1 a2 a3 =>
    refine zcy _ _ ?_
    cases hx:Γ.obj q with
    |none=>rfl
    |some x=>exact absurd (h.obs q x.1 x.2 hx).1 (hnewk _ _ a2)
  | new a1 a2 a3 =>
    refine zcy _ _ ?_
    cases hx:Γ.obj q with
    |none=>rfl
    |some x=>exact absurd (h.obs q x.1 x.2 hx).1 (hnewk _ _ a2)
 have hsurv:∀o' g' ob',(Γ.appOb (dels (passedOf S.obs a.th))).obj o'=some (g',ob')->holdsG ρ g'->ob'.isView=false->∀q g x o2,look q L=some (o2,g,x)->Disj (Cx.F o2) (C.F o'):=by
  intro o' g' ob' ho' hg' hv' q g x o2 hq b y hf hf'
  obtain⟨hn',ho⟩:=zb6 _ Γ ho'
  obtain⟨ob,h1,h2⟩:=hLs q o2 g x hq
  rcases out.own o2 ob h1 b y hf with hf|hf
  · obtain⟨m,hm,hf2⟩:=hWr b y hf
    obtain⟨gm,obm,hom,hgm,howm⟩:=hpo m hm
    exact h.dis m o' gm g' _ ob' hom ho hgm hg' (fun e=>hn' (e▸hm)) howm hv' b y hf2 hf'
  · have:=h.old ho hg' hv' hf'
    omega
 have hrel:=hdel.addL (L:=L2) (Γ':=Γ.appOb (dels (passedOf S.obs a.th)++(L2.reverse.map fun p=>(p.1,some p.2)))) (C':=Cc) (kn':=kn2) (fun t=>by rw[zar,zar]) (fun o=>by rw[Gam.appOb_append,zit]) habs hkle ?_ hold ?_ ?_ ?_ ?_ ?_
 · refine⟨Cc,kn2,hrel,?_,⟨hkle,hold⟩,fun o ho=>ho,fun x hx=>hx⟩
   -- the result
   have hres:=out.res
   obtain⟨c1,c2⟩:=zaI hys
   unfold ResRel at hres
   split at hres
   · rename_i x0 hx0
     rw[hx0]at c1
     match ys,c1 with
     | [y], _ =>
       obtain⟨x1,h1,h2⟩:=c2 0 y rfl
       rw[hx0]at h1
       cases h1
       exact zdL hbk hres h2
   · rename_i hx0
     obtain⟨vs,rfl,h1,h2⟩:=hres
     have hne:∀y,ys ≠ [y]:=by
      rintro y rfl
      match hm:S.outs,c1 with
      |[x],_=>exact hx0 x hm
     have:SVRel tab Cc kn2.o ρ (.tup ys) (.tuple vs):=by
      refine⟨vs,rfl,by omega,fun j y hj=>?_⟩
      obtain⟨x1,h3,h4⟩:=c2 j y hj
      obtain⟨u,h5,h6⟩:=h2 j x1 h3
      exact⟨u,h5,zdL hbk h6 h4⟩
     match ys,hne with
     |[],_=>exact this
     |[y],hne=>exact absurd rfl (hne y)
     |_::_::_,_=>exact this
 · rintro q ⟨g,x⟩ hq
   obtain⟨o',ob,h1,h2,h3⟩:=hL2 q g x hq
   cases h3 with
   |row a1 a0 a2 a3=>exact .inl (hslb _ _ _ _ a2)
   |box a1 a0 a2 a3=>exact .inl (hbxb _ _ a2).1
   |map a1 a0 a2 a3=>exact .inl (hmpb _ _ a2).1
   |nbox a1 a2 a3=>exact .inr (zbz a2)
   |new a1 a2 a3=>exact .inr (zbz a2)
 · intro o x ho
   refine hFn o ?_
   cases hy:look o L2 with
   |none=>exact hL2n o hy
   |some y=>rw[habs o y hy]at ho;cases ho
 · intro q g x hq
   obtain⟨o',ob,h1,h2,h3⟩:=hL2 q g x hq
   obtain⟨w1,w2⟩:=out.ob o' ob h2
   have hF:=hFL q o' g x h1
   cases h3 with
   | @row off len et y x0 a1 a0 a2 a3 =>
     refine⟨rfl,⟨nx+y,rfl,.inr ⟨by omega,by omega⟩⟩,fun et' x' e=>?_,fun hg=>?_⟩
     ·cases e;exact hfx _ (by omega) (by simp only;omega)
     · obtain⟨rows,r1,r2⟩:=w2
       obtain⟨y1,y2,y3⟩:=hrowA o' q off len x0 et _ a1 a0 a2 h2
       obtain⟨t1,t2,t3⟩:=hold q (hslb _ _ _ _ a2)
       refine⟨rows,?_,?_⟩
       ·rw[<- r1];exact hbk.vars (.var y) (by simpa[Exp.bnd]using a3)
       ·rw[hF,t1,t2,t3,<- y1,<- y2,<- y3];exact r2
   | @box cells cs x0 a1 a0 a2 a3 =>
     refine⟨rfl,trivial,fun et' x' e=>(by cases e),fun hg=>?_⟩
     obtain⟨b,base,r1,r2,r3,r4⟩:=w2
     obtain⟨c1,c2⟩:=zaI a3
     obtain⟨t1,t2⟩:=hbk.bx o' q a2
     refine⟨b,base,⟨r1.1,t2.trans r1.2⟩,by rw[hF,r2,c1],fun j l hj=>?_,fun e x hx=>r4 rfl x (by omega)⟩
     obtain⟨l1,h5,h6⟩:=c2 j l hj
     obtain⟨v,h7,h8⟩:=r3 j l1 h5
     exact⟨v,h7,zaR hbk h8 h6⟩
   | @map k v y x0 a1 a0 a2 a3 =>
     refine⟨rfl,trivial,fun et' x' e=>(by cases e),fun hg=>?_⟩
     obtain⟨r',es',cl,ents,r1,r2,r3,r4,r5⟩:=w2
     obtain⟨t1,t2⟩:=hbk.mp o' q a2
     exact⟨r',es',cl,ents,t2.trans r1,by rw[hF,r2],r3,by rw[<- r4];exact hbk.vars (.var y) (by simpa[Exp.bnd]using a3),r5⟩
   | @nbox cells cs a1 a2 a3 =>
     refine⟨rfl,trivial,fun et' x' e=>(by cases e),fun hg=>?_⟩
     obtain⟨b,base,r1,r2,r3,r4⟩:=w2
     obtain⟨c1,c2⟩:=zaI a3
     obtain⟨t1,t2,t3⟩:=hnewA o' q a2
     refine⟨b,base,⟨r1.1,t1.trans r1.2⟩,by rw[hF,r2,c1],fun j l hj=>?_,fun e x hx=>r4 rfl x (by omega)⟩
     obtain⟨l1,h5,h6⟩:=c2 j l hj
     obtain⟨v,h7,h8⟩:=r3 j l1 h5
     exact⟨v,h7,zaR hbk h8 h6⟩
   | @new et y a1 a2 a3 =>
     refine⟨rfl,⟨nx+y,rfl,.inr ⟨by omega,by omega⟩⟩,fun et' x' e=>?_,fun hg=>?_⟩
     ·cases e;exact hfx _ (by omega) (by simp only;omega)
     · obtain⟨rows,r1,r2⟩:=w2
       obtain⟨t1,t2,t3⟩:=hnewA o' q a2
       refine⟨rows,?_,?_⟩
       ·rw[<- r1];exact hbk.vars (.var y) (by simpa[Exp.bnd]using a3)
       ·rw[hF,t1,t2,t3];exact r2
 · intro o1 o2 g1 g2 ob1 ob2 hq1 hq2 hg1 hg2 hne hown
   obtain⟨p1,b1,h1,h2,h3⟩:=hL2 o1 g1 ob1 hq1
   obtain⟨p2,b2,h4,h5,h6⟩:=hL2 o2 g2 ob2 hq2
   rw[hFL _ _ _ _ h1,hFL _ _ _ _ h4]
   refine out.dis p1 p2 b1 b2 h2 h5 ?_ h3.owned.1
   rintro rfl
   apply hne
   cases h3 with
   | row a1 a0 a2 a3 => cases h6 with
     |row c1 c0 c2 c3=>rw[a2]at c2;cases c2;rfl
     |box c1 c0 c2 c3=>rw[a2]at c2;cases c2
     |map c1 c0 c2 c3=>rw[a2]at c2;cases c2
     |nbox c1 c2 c3=>rw[a1]at c1;cases c1
     |new c1 c2 c3=>rw[a1]at c1;cases c1
   | box a1 a0 a2 a3 => cases h6 with
     |row c1 c0 c2 c3=>rw[a2]at c2;cases c2
     |box c1 c0 c2 c3=>rw[a2]at c2;cases c2;rfl
     |map c1 c0 c2 c3=>rw[a2]at c2;cases c2
     |nbox c1 c2 c3=>rw[a1]at c1;cases c1
     |new c1 c2 c3=>rw[a1]at c1;cases c1
   | map a1 a0 a2 a3 => cases h6 with
     |row c1 c0 c2 c3=>rw[a2]at c2;cases c2
     |box c1 c0 c2 c3=>rw[a2]at c2;cases c2
     |map c1 c0 c2 c3=>rw[a2]at c2;cases c2;rfl
     |nbox c1 c2 c3=>rw[a1]at c1;cases c1
     |new c1 c2 c3=>rw[a1]at c1;cases c1
   | nbox a1 a2 a3 => cases h6 with
     |row c1 c0 c2 c3=>rw[a1]at c1;cases c1
     |box c1 c0 c2 c3=>rw[a1]at c1;cases c1
     |map c1 c0 c2 c3=>rw[a1]at c1;cases c1
     |nbox c1 c2 c3=>rw[a2]at c2;cases c2;rfl
     |new c1 c2 c3=>rw[a2]at c2;cases c2;rfl
   | new a1 a2 a3 => cases h6 with
     |row c1 c0 c2 c3=>rw[a1]at c1;cases c1
     |box c1 c0 c2 c3=>rw[a1]at c1;cases c1
     |map c1 c0 c2 c3=>rw[a1]at c1;cases c1
     |nbox c1 c2 c3=>rw[a2]at c2;cases c2;rfl
     |new c1 c2 c3=>rw[a2]at c2;cases c2;rfl
 · intro o1 o2 g1 g2 ob1 ob2 hq1 ho2 hg1 hg2 hv2 _
   obtain⟨p1,b1,h1,h2,h3⟩:=hL2 o1 g1 ob1 hq1
   rw[hFL _ _ _ _ h1]
   exact hsurv o2 g2 ob2 ho2 hg2 hv2 o1 g1 ob1 p1 h1
 · intro q g x hq hg hown b y hf
   obtain⟨o',ob,h1,h2,h3⟩:=hL2 q g x hq
   rw[hFL _ _ _ _ h1]at hf
   rcases out.own o' ob h2 b y hf with hf|hf
   · obtain⟨m,hm,hf2⟩:=hWr b y hf
     obtain⟨gm,obm,hom,hgm,howm⟩:=hpo m hm
     exact h.own m gm _ hom hgm howm b y hf2
   ·exact .inr (Nat.le_trans h.frm.size hf)
end
end Gp
