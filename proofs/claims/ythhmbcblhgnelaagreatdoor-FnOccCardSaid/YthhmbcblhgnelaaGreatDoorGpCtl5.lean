import Derived.Test.YthhmbcblhgnelaaGreatDoorGpQui
set_option linter.unusedVariables false
set_option linter.unusedSimpArgs false
namespace Gp
open Go
inductive BigC(J:Nat->List T->List T->Prop):PI->Env->Ex->Env->Prop where
 |skip {ρ}:BigC J .skip ρ .normal ρ
 |nil {ρ}:BigC J (.sis []) ρ .normal ρ
 |off {g s l ρ e ρ'}:¬holdsG ρ g->BigC J (.sis l) ρ e ρ'->BigC J (.sis ((g,s)::l)) ρ e ρ'
 |set {g x e l ρ ex ρ'}:holdsG ρ g->BigC J (.sis l) (upd ρ x (den ρ e)) ex ρ'->BigC J (.sis ((g,.set x e)::l)) ρ ex ρ'
 |mov {g x es l ρ ex ρ'}:holdsG ρ g->BigC J (.sis l) (updL ρ x (es.map (den ρ))) ex ρ'->BigC J (.sis ((g,.mov x es)::l)) ρ ex ρ'
 |chk {g e l ρ ex ρ'}:holdsG ρ g->den ρ e = .bool true->BigC J (.sis l) ρ ex ρ'->BigC J (.sis ((g,.chk e)::l)) ρ ex ρ'
 |call {g i args x n l ρ ex ρ' outs}:holdsG ρ g->J i (args.map (den ρ)) outs->outs.length=n ->
  BigC J (.sis l) (updL ρ x outs) ex ρ'->BigC J (.sis ((g,.call i args x n)::l)) ρ ex ρ'
 |seq {a b ρ ρ₁ ex ρ₂}:BigC J a ρ .normal ρ₁->BigC J b ρ₁ ex ρ₂->BigC J (.seq a b) ρ ex ρ₂
 |seqOut {a b ρ ex ρ₁}:BigC J a ρ ex ρ₁->ex ≠ .normal->BigC J (.seq a b) ρ ex ρ₁
 |yes {e a b ρ ex ρ₁}:den ρ e = .bool true->BigC J a ρ ex ρ₁->BigC J (.cond e a b) ρ ex ρ₁
 |no {e a b ρ ex ρ₁}:den ρ e = .bool false->BigC J b ρ ex ρ₁->BigC J (.cond e a b) ρ ex ρ₁
 |block {id a ρ ρ₁}:BigC J a ρ .normal ρ₁->BigC J (.block id a) ρ .normal ρ₁
 |blockIn {id a ρ ρ₁}:BigC J a ρ (.exit id) ρ₁->BigC J (.block id a) ρ .normal ρ₁
 |blockOut {id a ρ ex ρ₁}:BigC J a ρ ex ρ₁->ex ≠ .normal->ex ≠ .exit id->BigC J (.block id a) ρ ex ρ₁
 |loop {a ρ ρ₁ ex ρ₂}:BigC J a ρ .normal ρ₁->BigC J (.loop a) ρ₁ ex ρ₂->BigC J (.loop a) ρ ex ρ₂
 |loopOut {a ρ ex ρ₁}:BigC J a ρ ex ρ₁->ex ≠ .normal->BigC J (.loop a) ρ ex ρ₁
 |exit {id ρ}:BigC J (.exit id) ρ (.exit id) ρ
 |ret {es ρ}:BigC J (.ret es) ρ (.ret (es.map (den ρ))) ρ
theorem zho {I:Nat->Option Body}{J:Nat->List T->List T->Prop}(hc:∀i p ds outs ρ₁,I i=some (.code p)->BigC J p (envOf ds) (.ret outs) ρ₁->J i ds outs)
 (hp:∀i R ds outs,I i=some (.prim R)->R ds outs->J i ds outs) {p:PI} {ρ:Env} {ex:Ex} {ρ':Env} (h:Big I p ρ ex ρ'):BigC J p ρ ex ρ':=by
 induction h with
 |skip=>exact .skip
 |nil=>exact .nil
 |off h _ ih=>exact .off h ih
 |set h _ ih=>exact .set h ih
 |mov h _ ih=>exact .mov h ih
 |chk h h2 _ ih=>exact .chk h h2 ih
 |call h hI _ hn _ ih1 ih2=>exact .call h (hc _ _ _ _ _ hI ih1) hn ih2
 |prim h hI hR hn _ ih=>exact .call h (hp _ _ _ _ hI hR) hn ih
 |seq _ _ ih1 ih2=>exact .seq ih1 ih2
 |seqOut _ hne ih=>exact .seqOut ih hne
 |yes h _ ih=>exact .yes h ih
 |no h _ ih=>exact .no h ih
 |block _ ih=>exact .block ih
 |blockIn _ ih=>exact .blockIn ih
 |blockOut _ h1 h2 ih=>exact .blockOut ih h1 h2
 |loop _ _ ih1 ih2=>exact .loop ih1 ih2
 |loopOut _ h ih=>exact .loopOut ih h
 |exit=>exact .exit
 |ret=>exact .ret
section
variable {J:Nat->List T->List T->Prop}{ρ ρ':Env}
theorem Exp.bnd_mono{n m:Nat}(hm:n<=m):∀{e:Exp},e.bnd n=true->e.bnd m=true
 | .var x, h => by
   have:x<n:=Nat.le_of_ble_eq_true h
   exact Nat.ble_eq_true_of_le (by omega)
 |.int _,_|.bool _,_|.str _,_|.nil,_=>rfl
 |.un _ a,h=>Exp.bnd_mono (e:=a) hm h
 | .bin _ a b, h => by
   simp only[Exp.bnd,Bool.and_eq_true]at h ⊢
   exact⟨Exp.bnd_mono hm h.1,Exp.bnd_mono hm h.2⟩
 | .tri _ a b c, h => by
   simp only[Exp.bnd,Bool.and_eq_true]at h ⊢
   exact⟨Exp.bnd_mono hm h.1,Exp.bnd_mono hm h.2.1,Exp.bnd_mono hm h.2.2⟩
theorem zge {n:Nat}(ha:Agree n ρ ρ'){es:List Exp}(h:es.all (Exp.bnd n)=true):es.map (den ρ')=es.map (den ρ) :=
 List.map_congr_left fun e he=>zai ha e (by simp only[List.all_eq_true]at h;exact h e he)
theorem zhA:∀(l:List (Grd × SI)) {n m:Nat} {ρ ρ':Env} {ex:Ex},ssaL n l=some m->BigC J (.sis l) ρ ex ρ'->ex = .normal/\n<=m/\Agree n ρ ρ'/\HoldsS J ρ' l
 | [], n, m, ρ, ρ', ex, hs, hb => by
   cases hs
   cases hb
   exact⟨rfl,Nat.le_refl _,Agree.refl _ _,fun x hx=>by simp at hx⟩
 | (g, s) :: l, n, m, ρ, ρ', ex, hs, hb => by
   simp only[ssaL]at hs
   split at hs
   case isFalse=>cases hs
   rename_i hg
   split at hs
   case h_2=>cases hs
   rename_i n1 h1
   -- what the rest says, and that it tells nothing of what is below
   have key:∀ρ1:Env,BigC J (.sis l) ρ1 ex ρ'->n<=n1->Agree n ρ ρ1->(holdsG ρ g->Agree n1 ρ1 ρ'->SIok J ρ' s)->ex = .normal/\n<=m/\Agree n ρ ρ'/\HoldsS J ρ' ((g,s)::l):=by
    intro ρ1 hb1 hn ha hok
    obtain⟨e1,e2,e3,e4⟩:=zhA l hs hb1
    have ha':Agree n ρ ρ':=ha.trans (e3.mono hn)
    refine⟨e1,by omega,ha',fun x hx hgx=>?_⟩
    rcases List.mem_cons.1 hx with rfl|hx
    ·exact hok ((zaO ha' hg).1 hgx) e3
    ·exact e4 x hx hgx
   cases hb with
   | off hng hb =>
     have hn:n<=n1:=by
      cases s<;>simp only[SI.ssa]at h1<;>split at h1<;>cases h1<;>omega
     exact key ρ hb hn (Agree.refl _ _) fun hg'=>absurd hg' hng
   | set hgt hb =>
     rename_i x e
     simp only[SI.ssa]at h1
     split at h1
     case isFalse=>cases h1
     rename_i hc
     simp only[Bool.and_eq_true]at hc
     cases h1
     have hx:=Nat.eq_of_beq_eq_true hc.1
     subst hx
     refine key _ hb (by omega) (zbp (Nat.le_refl _)) fun _ ha=>?_
     show ρ' x=den ρ' e
     rw[ha x (by omega)]
     have hag:Agree x ρ ρ':=(zbp (Nat.le_refl _)).trans (ha.mono (by omega))
     rw[zai hag e hc.2];simp[upd]
   | mov hgt hb =>
     rename_i x es
     simp only[SI.ssa]at h1
     split at h1
     case isFalse=>cases h1
     rename_i hc
     simp only[Bool.and_eq_true]at hc
     cases h1
     have hx:=Nat.eq_of_beq_eq_true hc.1
     subst hx
     refine key _ hb (by omega) (zap _ _ _ (Nat.le_refl _)) fun _ ha=>?_
     intro j e hj
     have hlt:=List.getD_some_lt hj
     have hag:Agree x ρ ρ':=(zap _ _ _ (Nat.le_refl _)).trans (ha.mono (by omega))
     rw[ha (x+j) (by omega),zb5 _ _ _ j (den ρ e) (by rw[List.getElem?_map,hj];rfl)]
     rw[zai hag e]
     have:=hc.2
     simp only[List.all_eq_true]at this
     exact this e (List.mem_of_getElem? hj)
   | chk hgt he hb =>
     rename_i e
     simp only[SI.ssa]at h1
     split at h1
     case isFalse=>cases h1
     rename_i hc
     cases h1
     refine key _ hb (Nat.le_refl _) (Agree.refl _ _) fun _ ha=>?_
     show den ρ' e=_
     rw[zai ha e hc];exact he
   | call hgt hJ hl hb =>
     rename_i i args x k outs
     simp only[SI.ssa]at h1
     split at h1
     case isFalse=>cases h1
     rename_i hc
     simp only[Bool.and_eq_true]at hc
     cases h1
     have hx:=Nat.eq_of_beq_eq_true hc.1
     subst hx
     refine key _ hb (by omega) (zap _ _ _ (Nat.le_refl _)) fun _ ha=>?_
     have hag:Agree x ρ ρ':=(zap _ _ _ (Nat.le_refl _)).trans (ha.mono (by omega))
     refine⟨outs,by rw[zge hag hc.2];exact hJ,hl,fun j v hj=>?_⟩
     have hlt:=List.getD_some_lt hj
     rw[ha (x+j) (by omega),zb5 _ _ _ j v hj]
end
section
variable {tab:Tab}{Γ Γ':Gam}{ρ ρ':Env}{tm:Array Value}{w w':World}{C C1 Cx:Ctx}{kn kn':Kn}{Wr:CS}{w0:World}{P:Program}{G:Grd}{nx no nx' no' nb:Nat}{obs:Obs}{S:Sig}{sigs:List Sig}
def anReg (tab:Tab)(sigs:List Sig)(nt:Nat)(Γ:Gam)(nx no:Nat)(ops:Array Oper)(draw:Bool)(masks:MT):Option (List (Grd × SI) × Gam × Nat × Nat) :=
 if Γ.bnd nx then match anSeq tab sigs ops nt ops.toList Γ nx no with
  |some (rows,Γ',nx',no')=>if ssaL nx (sisOf rows)==some nx'&&(!draw||(quietReg tab ops rows Γ||(porChk tab sigs ops nt rows Γ masks||anyChk tab sigs ops nt rows Γ masks))) then some (sisOf rows,Γ',nx',no') else none
  |none=>none
 else none
theorem zh2 {E:Nat->Prop}{C0:Ctx}{nt:Nat}{ops:Array Oper}{ds:List Deferred}{Q:Exit->Act->World->Prop}{draw:Bool}{masks:MT}{sis:List (Grd × SI)}{id:Nat}{a:Act}{ex:Ex}(hT:TabOk P tab)(hm:P.follows .mixedOrders=true)
 (hr:anReg tab sigs nt Γ nx no ops draw masks=some (sis,Γ',nx',no')) (hst:St tab nt E C0 Γ ρ a w ds kn Wr w0) (hE:∀o,E o->o<no) (hkn:kn.below nx no)
 (hb:BigC (CallOk P tab sigs) (.sis sis) ρ ex ρ') (hQ:∀a' w' kn',St tab nt E C0 Γ' ρ' a' w' ds kn' Wr w0->kn'.below nx' no'->Q .normal a' w') :
 ex = .normal/\nx<=nx'/\no<=no'/\(Code.region id ops draw).wp P Q a w:=by
 unfold anReg at hr
 split at hr
 case isFalse=>cases hr
 rename_i hbnd
 split at hr
 case h_2=>cases hr
 rename_i rows Γ2 nx2 no2 hcan
 split at hr
 case isFalse=>cases hr
 rename_i hc
 cases hr
 simp only[Bool.and_eq_true,Bool.or_eq_true,beq_iff_eq,Bool.not_eq_true']at hc
 obtain⟨hssa,hany⟩:=hc
 obtain⟨e1,e2,e3,e4⟩:=zhA _ hssa hb
 obtain⟨⟨C,hrel,hkeep⟩,s2,s3,s4⟩:=hst
 have hrel':=hrel.agree e3 hbnd
 obtain⟨r1,r2,r3,r4,r5⟩:=zcm _ hcan
 refine⟨e1,e2,r3,?_⟩
 cases draw with
 | false =>
   refine wp_region ?_
   have:=zeF (Q:=Q) hT ops.toList 0 (fun j=>by simp) hcan e4 ⟨⟨C,hrel',hkeep⟩,s2,s3,s4⟩ hE hkn hQ
   rw[List.range_eq_range']
   simpa using this
 | true =>
   have hany:=hany.resolve_left (by simp)
   rcases hany with hqu|hany|hany
   ·exact zfc hT hm hcan hqu e4 ⟨⟨C,hrel',hkeep⟩,s2,s3,s4⟩ hE hkn hQ
   · have hc0:masks.contains 0=true:=by
      simp only[porChk,Bool.and_eq_true]at hany;exact hany.1.1
     refine Go.wp_mono (Q:=fun ex a w=>ex = .normal/\Q .normal a w) (wp_region_any hm ?_) fun e a w h=>by obtain⟨rfl,h⟩:=h;exact h
     refine zjC (Q:=fun ex a w=>ex = .normal/\Q .normal a w) hT hcan (fun _ _ _ h=>h.1) hany e4 hE (fun a' w' kn' k1 k2=>⟨rfl,hQ a' w' kn' k1 k2⟩) ops.size _ 0 kn a _ hc0 (fun i=>?_) (by simp) (ze4 _) ?_ ⟨fun o ho=>.inl (hkn.1 o ho),fun x hx=>.inl (hkn.2 x hx)⟩
     · simp only[Nat.zero_testBit,Array.getD_eq_getD_getElem?,Array.getElem?_replicate]
       split<;>rfl
     · rw[zdx]
       exact⟨⟨C,hrel'.grows (Grows.drew w),hkeep⟩,s2,s3,s4⟩
   refine wp_region_any hm ?_
   have hc0:masks.contains 0=true:=by
    simp only[anyChk,Bool.and_eq_true]at hany;exact hany.1
   refine zji (Q:=Q) hT hcan hany e4 hE hQ ops.size _ 0 kn a _ hc0 (fun i=>?_) (by simp) (ze4 _) ?_ ⟨fun o ho=>.inl (hkn.1 o ho),fun x hx=>.inl (hkn.2 x hx)⟩
   · simp only[Nat.zero_testBit,Array.getD_eq_getD_getElem?,Array.getElem?_replicate]
     split<;>rfl
   · rw[zdx]
     exact⟨⟨C,hrel'.grows (Grows.drew w),hkeep⟩,s2,s3,s4⟩
end
end Gp
namespace Gp
open Go
structure TieJ where
 q:Nat
 par:Nat
 pd:Exp
 i:Exp
 j:Nat
 et:TypeId
 o:Nat
 deriving Repr,Inhabited
structure Join where
 Γ:Gam
 nb:Nat
 cnt:Nat
 no:Nat
 ties:List TieJ:=[]
 deriving Repr,Inhabited
def TieJ.upd (t:TieJ):Nat × Option (Grd × Obj):=(t.q,some ([],.view t.par t.pd t.i t.j t.et (holeE t.o)))
def Join.full(J:Join):Gam:=J.Γ.appOb (J.ties.map TieJ.upd)
def obsOf (Γ:Gam):Obs:=Γ.ob.map fun p=>(p.1,p.2.2)
def pairsOf (Γ:Gam):List (Nat × (Grd × SV))->Option (List S1 × List S1)
 |[]=>some ([],[])
 | (t, ([], .s x')) :: r => match Γ.get t, pairsOf Γ r with
   |some ([],.s x),some (a,b)=>some (x'::a,x::b)
   |_,_=>none
 |_=>none
def artsOf (Γ:Gam)(obs:Obs):List Nat->Option (List S1 × List S1)
 |[]=>some ([],[])
 | o :: r => match look o obs with
   |none=>artsOf Γ obs r
   | some ob => match ob, Γ.obj o, artsOf Γ obs r with
     |.row _ et (.var x),some ([],.row _ et2 d),some (a,b)=>some (.one (.sl o et (.int 0) (.un .len (.var x)))::a,.one (.sl o et2 (.int 0) (.un .len d))::b)
     |.box _ _,some ([],.box _ _),some (a,b)=>some (.one (.pb o 0)::a,.one (.pb o 0)::b)
     |.map _ _ _,some ([],.map _ _ _),some (a,b)=>some (.one (.mp o)::a,.one (.mp o)::b)
     |_,_,_=>none
def wholeAll (Γ : Gam) (obs : Obs) (th : List (Nat × Ref)) (E : List Nat) : Bool :=
 E.all fun o=>(look o obs).isNone||match look o th with
  | some (.sl q off len) => Nat.beq q o && match rowOf Γ [] o with
    |some (_,_,d,_)=>isWhole d off len
    |none=>false
  |some (.bx q)=>Nat.beq q o
  |some (.mp q)=>Nat.beq q o
  |_=>false
def verChk (n:Nat):Obj->Bool
 |.row _ _ (.var x)=>Nat.blt x n
 |.row _ _ _=>false
 |.box _ _=>true
 |.view _ (.var y) _ _ _ (.var x)=>Nat.blt y n&&Nat.blt x n
 |.view ..=>false
 |.map ..=>true
def Obj.asRow:Obj->Obj
 |.view _ _ _ _ et d=>.row false et d
 |x=>x
def rowObs (obs:Obs):Obs:=obs.map fun p=>(p.1,p.2.asRow)
def isVw (obs:Obs)(o:Nat):Bool:=match look o obs with
 |some (.view ..)=>true
 |_=>false
def chkOwnV (Γ : Gam) (full obs : Obs) (th : List (Nat × Ref)) : Bool :=
 obs.all fun(o',ob)=>!ob.owned||match look o' th with
  | some r => match rootRef Γ r with
    |some q=>th.all fun(o2,r2)=>Nat.beq o2 o'||isVw full o2||(match rootRef Γ r2 with|some q2=>!Nat.beq q2 q|none=>true)
    |none=>true
  |none=>false
def sgE (nb:Nat)(sg:List (Nat × Exp))(e' e:Exp):Bool:=(e'==e&&e'.bnd nb)||match e' with
 |.var x=>look x sg==some e
 |_=>false
def wholeRow (Γ:Gam)(q:Nat)(off len:Exp):Bool:=match Γ.obj q with
 |some ([],.row _ _ d)=>isWhole d off len
 |_=>false
def tieAt (Γ:Gam)(nb:Nat)(sg:List (Nat × Exp))(t:TieJ)(pq oq:Nat)(pdq:Exp)(k:Nat):Bool:=match Γ.obj k with
 |some ([],.view pv pdv iv jv etv dv)=>Nat.beq pv pq&&pdv==pdq&&Nat.beq jv t.j&&Nat.beq etv t.et&&dv==holeE oq&&sgE nb sg t.i iv
 |_=>false
def tieOk (E:List Nat)(Γ:Gam)(J:Join)(acc:Acc)(t:TieJ):Bool :=
 (look t.q J.Γ.ob).isNone&&Nat.blt t.q J.no && !E.contains t.q&&match look t.o acc.th,look t.par acc.th with
 | some (.sl oq off len), some (.sl pq offp lenp) => wholeRow Γ oq off len && wholeRow Γ pq offp lenp && match J.Γ.obj t.par, Γ.obj pq with
   |some ([],.row true pet pd'),some ([],.row true petq pdq)=>pd'==t.pd&&Nat.beq pet petq&&sgE J.nb acc.sg t.pd pdq&&(Γ.ob.map (·.1)).any (tieAt Γ J.nb acc.sg t pq oq pdq) && !isPunch t.pd
   |_,_=>false
 |_,_=>false
def tiesOk (E:List Nat)(Γ:Gam)(J:Join)(acc:Acc):Bool:=decide ((J.ties.map (·.q)).Nodup)&&J.ties.all (tieOk E Γ J acc)
def viewOk (Γ : Gam) (J : Join) (acc : Acc) (o' : Nat) : Obj -> Bool
 | .view par pd i j et (.var x) => match look o' acc.th, look par acc.th with
   |some (.sl o off len),some (.sl pq offp lenp)=>wholeRow Γ pq offp lenp&&match Γ.obj o,J.Γ.obj par,Γ.obj pq with
    | some ([], .view pv pdv iv jv etv dv), some ([], .row true pet pd'), some ([], .row true petq pdq) =>
      Nat.beq pv pq&&Nat.beq jv j&&Nat.beq etv et && !isHoleE dv&&isWhole dv off len&&sgE J.nb acc.sg i iv&&sgE J.nb acc.sg (.var x) dv&&pd'==pd&&Nat.beq pet petq&&pdv==pdq&&sgE J.nb acc.sg pd pdq
    |_,_,_=>false
   |_,_=>false
 |.view ..=>false
 |_=>true
def coe (tab:Tab)(E:List Nat)(Γ:Gam)(J:Join):Option (List Exp) :=
 let obs:=rowObs (obsOf J.Γ)
 match artsOf Γ obs E,pairsOf Γ J.Γ.tm with
 | some (a', a), some (p', p) => match mS1s tab Γ [] J.nb obs (a' ++ p') (a ++ p) ⟨[], []⟩ with
   | some acc =>
     if J.Γ.ob.all (fun x=>x.2.1.isEmpty&&verChk (J.nb+J.cnt) x.2.2&&Nat.blt x.1 J.no)&&allBound obs acc.th&&chkOwnV Γ (obsOf J.Γ) obs acc.th&&wholeAll Γ obs acc.th E&&acc.sg.all (fun p=>Nat.ble J.nb p.1&&Nat.blt p.1 (J.nb+J.cnt))&&tiesOk E Γ J acc&&J.Γ.ob.all (fun x=>viewOk Γ J acc x.1 x.2.2) then
      sgArgs acc.sg J.cnt J.nb
     else none
   |none=>none
 |_,_=>none
section
variable {tab:Tab}{Γ Γ':Gam}{ρ ρ':Env}{tm:Array Value}{w w':World}{C C0 C1 Cx:Ctx}{kn kn':Kn}{Wr:CS}{w0:World}{P:Program}{G:Grd}{nx no nx' no' nb:Nat}{obs:Obs}{S:Sig}{sigs:List Sig}
theorem zdF {X:Nat × (Grd × SV)->Prop}:∀{l:List (Nat × (Grd × SV))} {a b:List S1},pairsOf Γ l=some (a,b)->a.length=l.length/\b.length=l.length /\
 ∀(j:Nat) t y,l[j]? = some (t,y)->∃x' x,y=([],.s x')/\a[j]? = some x'/\b[j]? = some x/\Γ.get t=some ([],.s x)
 |[],a,b,h=>by cases h;exact⟨rfl,rfl,fun j t y hj=>by simp at hj⟩
 | (t, (g, sv)) :: r, a, b, h => by
   unfold pairsOf at h
   split at h
   ·rename_i h0;cases h0
   · rename_i t' x' r' heq
     cases heq
     split at h
     · rename_i x a' b' h1 h2
       cases h
       obtain⟨l1,l2,l3⟩:=zdF (X:=X) h2
       refine⟨by simp[l1],by simp[l2],fun j t2 y hj=>?_⟩
       cases j with
       |zero=>simp at hj;obtain⟨rfl,rfl⟩:=hj;exact⟨x',x,rfl,rfl,rfl,h1⟩
       |succ j=>simpa using l3 j t2 y (by simpa using hj)
     ·cases h
   ·cases h
theorem zaG (h:Rel tab Γ ρ tm w C kn Wr w0):∀{l:List Nat} {a b:List S1},artsOf Γ obs l=some (a,b)->a.length=b.length/\∀(j:Nat) x,b[j]? = some x->∃v,S1Rel tab C kn.o ρ x v
 |[],a,b,hh=>by cases hh;exact⟨rfl,fun j x hj=>by simp at hj⟩
 | o :: r, a, b, hh => by
   simp only[artsOf]at hh
   split at hh
   ·exact zaG h hh
   · rename_i ob hob
     split at hh
     · rename_i dp et x g et2 d a' b' h1 h2
       cases hh
       obtain⟨l1,l2⟩:=zaG h h2
       refine⟨by simp[l1],fun j y hj=>?_⟩
       cases j with
       | zero =>
         simp at hj;subst hj
         obtain⟨k1,k2,k3⟩:=h.obs o [] _ h1
         obtain⟨rows,r1,r2⟩:=k3 trivial
         obtain⟨x1,x2,x3⟩:=r2.header
         refine⟨.slice (C.A o) (C.N o) (C.K o),⟨k1,0,C.N o,_,_,rfl,?_,rfl,by omega,x2,by omega,?_⟩,fun cs=>by simp⟩
         ·simp only[den,U.den,r1,T.len,x1]
         · rcases x3 with h0|⟨bb,off,h0⟩
           ·exact .inl h0
           ·exact .inr ⟨bb,off,h0,by rw[h0];simp⟩
       |succ j=>exact l2 j y (by simpa using hj)
     · rename_i rw' cells g rwc cells2 a' b' h1 h2
       cases hh
       obtain⟨l1,l2⟩:=zaG h h2
       refine⟨by simp[l1],fun j y hj=>?_⟩
       cases j with
       | zero =>
         simp at hj;subst hj
         obtain⟨k1,k2,k3⟩:=h.obs o [] _ h1
         obtain⟨bb,base,q1,_⟩:=k3 trivial
         exact⟨.pointer (some ⟨bb,base,none⟩),⟨k1,bb,base,q1.2,rfl⟩,fun cs=>by simp⟩
       |succ j=>exact l2 j y (by simpa using hj)
     · rename_i mk mv md g mk2 mv2 md2 a' b' h1 h2
       cases hh
       obtain⟨l1,l2⟩:=zaG h h2
       refine⟨by simp[l1],fun j y hj=>?_⟩
       cases j with
       | zero =>
         simp at hj;subst hj
         obtain⟨k1,k2,k3⟩:=h.obs o [] _ h1
         obtain⟨rr,es,cl,ents,q1,_⟩:=k3 trivial
         exact⟨.map (some rr),⟨k1,rr,q1,rfl⟩,fun cs=>by simp⟩
       |succ j=>exact l2 j y (by simpa using hj)
     ·cases hh
theorem zcV {a:Acc}{C':Ctx}{E:List Nat}(hinv:Inv tab Γ [] ρ ρ' w C obs a C')(hw:wholeAll Γ obs a.th E=true)(h:Rel tab Γ ρ tm w C kn Wr w0) :
 ∀o,o∈E->kIn obs o->kn.o o/\C'.A o=C.A o/\C'.N o=C.N o/\C'.K o=C.K o:=by
 intro o hE ⟨ob,hob⟩
 simp only[wholeAll,List.all_eq_true]at hw
 have:=hw o hE
 rw[hob]at this
 simp only[Option.isNone_some,Bool.false_or]at this
 split at this
 · rename_i q off len ht
   simp only[Bool.and_eq_true]at this
   obtain⟨h1,h2⟩:=this
   have h1:=Nat.eq_of_beq_eq_true h1
   subst h1
   obtain⟨ob',hb1,hB⟩:=hinv _ _ ht
   obtain⟨dp,et',x',ti,rows,m,n,c,root,gr,obr,d',z1,z2,z3,z4,z5,z6,z7,z8,z9,z10,z11,z12,z13,z14,z15,z16,z17,z18,⟨dp2,vw,z19⟩,z20⟩:=hB
   rw[z19]at h2
   refine⟨?_,z20 h2⟩
   unfold rowOf at z19
   split at z19
   ·rename_i ho;exact (h.obs _ _ _ ho).1
   ·rename_i ho;exact (h.obs _ _ _ ho).1
   ·cases z19
 · rename_i q ht
   have h1:=Nat.eq_of_beq_eq_true this
   subst h1
   obtain⟨ob',hb1,hB⟩:=hinv _ _ ht
   obtain⟨rw',rwc,cells',cells,g,z1,z2,z3,z4,z5,z6,z7⟩:=hB
   exact⟨(h.obs _ _ _ z2).1,z5⟩
 · rename_i q ht
   have h1:=Nat.eq_of_beq_eq_true this
   subst h1
   obtain⟨ob',hb1,hB⟩:=hinv _ _ ht
   obtain⟨k',v',x',d',g,z1,z2,z3,z4,z5,z6⟩:=hB
   exact⟨(h.obs _ _ _ z2).1,z4⟩
 ·cases this
theorem zfA (Γ:Gam)(o:Nat):look o (obsOf Γ)=(Γ.obj o).map (·.2):=zbR (fun p:Grd × Obj=>p.2) o Γ.ob
theorem zdf {nb:Nat}{sg:List (Nat × Exp)}{e' e:Exp}(h:sgE nb sg e' e=true)(hsg:∀x e,look x sg=some e->ρ' x=den ρ e)(hag:∀x,x<nb->ρ' x=ρ x):den ρ' e'=den ρ e:=by
 unfold sgE at h
 rw[Bool.or_eq_true]at h
 rcases h with h|h
 · simp only[Bool.and_eq_true,beq_iff_eq]at h
   obtain⟨h1,h2⟩:=h
   subst h1
   exact zai (n:=nb) (fun x hx=>hag x hx) _ h2
 · split at h
   · rename_i x
     simp only[beq_iff_eq]at h
     exact hsg x e h
   ·cases h
def TieGood (tab:Tab)(ΓJ:Gam)(ρ:Env)(w:World)(C:Ctx)(kn:Kn)(t:TieJ):Prop :=
 ∃ (pet : TypeId) (ti : TI) (m b base : Nat) (rows : List T), ΓJ.obj t.par = some ([], .row true pet t.pd) /\ kn.o t.par /\ kn.o t.o /\ (∃ x, t.pd = .var x /\ kn.v x) /\ den ρ t.i = .int m /\ m < C.N t.par /\ C.A t.par = some ⟨b, base, none⟩ /\
   den ρ t.pd = .list rows/\tab.get pet=some ti/\ti.cks[t.j]? = some (.sl t.et)/\cellAt w b (base+m*tab.sz pet+t.j)=some (.slice (C.A t.o) (C.N t.o) (C.K t.o))
theorem zie:∀(ts:List TieJ) (ΓJ:Gam) (C:Ctx) (kn:Kn),Rel tab ΓJ ρ tm w C kn Wr w0->(∀t∈ts,TieGood tab ΓJ ρ w C kn t)->(∀t∈ts,¬kn.o t.q)->(ts.map (·.q)).Nodup ->
 ∃C' kn',Rel tab (ΓJ.appOb (ts.map TieJ.upd)) ρ tm w C' kn' Wr w0/\(∀o,kn.o o->C'.A o=C.A o/\C'.N o=C.N o/\C'.K o=C.K o)/\(∀o,kn'.o o->kn.o o\/∃t∈ts,o=t.q)/\kn'.v=kn.v/\kn.le kn'
 |[],ΓJ,C,kn,h,_,_,_=>⟨C,kn,h,fun _ _=>⟨rfl,rfl,rfl⟩,fun _=>.inl,rfl,Kn.le.refl _⟩
 | t :: ts, ΓJ, C, kn, h, hg, hq, hn => by
   obtain⟨pet,ti,m,b,base,rows,g1,g2,g3,g4,g5,g6,g7,g8,g9,g10,g11⟩:=hg t (by simp)
   have hqt:=hq t (by simp)
   have hqp:t.q≠t.par:=fun e=>hqt (e▸g2)
   have hqo:t.q≠t.o:=fun e=>hqt (e▸g3)
   simp only[List.map_cons,List.nodup_cons]at hn
   have s1:=h.addOb (o:=t.q) (g:=[]) (ob:=.view t.par t.pd t.i t.j t.et (holeE t.o)) (A:=C.A t.o) (N:=C.N t.o) (K:=C.K t.o) (F:=Emp) hqt ⟨g2,g4⟩
    (fun _=>by
     intro gp pet' hp' _
     rw[Gam.obj_setOb_ne _ _ hqp,g1]at hp'
     cases hp'
     refine⟨m,b,base,rows,g5,?_,?_,g8,.inl ⟨t.o,rfl,.inl g3,?_,?_,?_⟩,⟨ti,g9,g10⟩,?_⟩
     ·rw[(Ctx.set_ne (Ne.symm hqp)).2.1];exact g6
     ·rw[(Ctx.set_ne (Ne.symm hqp)).1];exact g7
     ·rw[Ctx.set_self.1,(Ctx.set_ne (Ne.symm hqo)).1]
     ·rw[Ctx.set_self.2.1,(Ctx.set_ne (Ne.symm hqo)).2.1]
     ·rw[Ctx.set_self.2.2.1,(Ctx.set_ne (Ne.symm hqo)).2.2.1]
     ·rw[Ctx.set_self.1,Ctx.set_self.2.1,Ctx.set_self.2.2.1];exact g11)
    (fun _ hh=>by cases hh) (fun _ hh=>by cases hh) (fun _ hh=>by cases hh)
   have hset:∀o,kn.o o->(C.set t.q (C.A t.o) (C.N t.o) (C.K t.o) Emp).A o=C.A o/\(C.set t.q (C.A t.o) (C.N t.o) (C.K t.o) Emp).N o=C.N o/\(C.set t.q (C.A t.o) (C.N t.o) (C.K t.o) Emp).K o=C.K o:=by
    intro o ho
    have:o≠t.q:=fun e=>hqt (e▸ho)
    exact⟨(Ctx.set_ne this).1,(Ctx.set_ne this).2.1,(Ctx.set_ne this).2.2.1⟩
   obtain⟨C2,kn2,r1,r2,r3,r4,r5⟩:=zie ts _ _ _ s1 (fun t' ht'=>by
    obtain⟨pet,ti,m,b,base,rows,g1,g2,g3,g4,g5,g6,g7,g8,g9,g10,g11⟩:=hg t' (List.mem_cons_of_mem _ ht')
    have hqp':t.q≠t'.par:=fun e=>hqt (e▸g2)
    obtain⟨y1,y2,y3⟩:=hset t'.par g2
    obtain⟨z1,z2,z3⟩:=hset t'.o g3
    exact⟨pet,ti,m,b,base,rows,by rw[Gam.obj_setOb_ne _ _ hqp'];exact g1,.inl g2,.inl g3,g4,g5,by rw[y2];exact g6,by rw[y1];exact g7,g8,g9,g10,by rw[z1,z2,z3];exact g11⟩)
    (fun t' ht' hk=>by
     rcases hk with hk|hk
     ·exact hq t' (List.mem_cons_of_mem _ ht') hk
     ·exact hn.1 (List.mem_map.2 ⟨t',ht',hk⟩)) hn.2
   refine⟨C2,kn2,r1,fun o ho=>?_,fun o ho=>?_,r4,⟨fun o ho=>r5.1 o (.inl ho),fun x hx=>r5.2 x hx⟩⟩
   · obtain⟨y1,y2,y3⟩:=r2 o (.inl ho)
     obtain⟨z1,z2,z3⟩:=hset o ho
     exact⟨y1.trans z1,y2.trans z2,y3.trans z3⟩
   · rcases r3 o ho with (hk|hk)|⟨t',ht',e⟩
     ·exact .inl hk
     ·exact .inr ⟨t,by simp,hk⟩
     ·exact .inr ⟨t',List.mem_cons_of_mem _ ht',e⟩
theorem zju {E:List Nat}{nt:Nat}{a:Act}{ds:List Deferred}{J:Join}{es:List Exp}(hT:TabOk P tab)(hst:St tab nt (· ∈ E) C0 Γ ρ a w ds kn Wr w0)(hc:coe tab E Γ J=some es) :
 es.length=J.cnt/\∃kn',St tab nt (· ∈ E) C0 J.full (updL ρ J.nb (es.map (den ρ))) a w ds kn' Wr w0/\kn'.below (J.nb+J.cnt) J.no:=by
 obtain⟨⟨C,h,hkeep⟩,s2,s3,s4⟩:=hst
 unfold coe at hc
 simp only at hc
 split at hc
 case h_2=>cases hc
 rename_i a' a0 p' p ha hp
 split at hc
 case h_2=>cases hc
 rename_i acc hacc
 split at hc
 case isFalse=>cases hc
 rename_i hchk
 simp only[Bool.and_eq_true,List.all_eq_true]at hchk
 obtain⟨⟨⟨⟨⟨⟨c1,c2⟩,c3⟩,c4⟩,c5⟩,c6⟩,c8⟩:=hchk
 obtain⟨e1,e2⟩:=zbJ hc
 refine⟨e1,?_⟩
 obtain⟨al,av⟩:=zaG h ha
 obtain⟨pl1,pl2,pv⟩:=zdF (X:=fun _=>True) hp
 have hsg:∀x e,look x acc.sg=some e->updL ρ J.nb (es.map (den ρ)) x=den ρ e:=by
  intro x e hx
  obtain⟨b1,b2⟩:=c5 _ (zam hx)
  have b1:J.nb<=x:=Nat.le_of_ble_eq_true b1
  have b2:x<J.nb+J.cnt:=Nat.le_of_ble_eq_true b2
  obtain⟨e',h1,h2⟩:=e2 (x-J.nb) (by omega)
  rw[show J.nb+(x-J.nb)=x by omega,hx]at h1;cases h1
  have:=zb5 (es.map (den ρ)) J.nb ρ (x-J.nb) (den ρ e) (by rw[List.getElem?_map,h2];rfl)
  rwa[show J.nb+(x-J.nb)=x by omega]at this
 have hag:∀x,x<J.nb->updL ρ J.nb (es.map (den ρ)) x=ρ x:=fun x hx=>zap _ _ _ (Nat.le_refl _) x hx
 obtain⟨C',st,hl1,hl2⟩:=zcp (nb:=J.nb) (ρ':=updL ρ J.nb (es.map (den ρ))) (C':=C) hT h (G:=[]) trivial hag
  (fun j v=>a'.length<=j->∃t y,J.Γ.tm[j-a'.length]? = some (t,y)/\v=a.tmps.getD t undef) hacc (fun j x hj=>by
   by_cases hlt:j<a0.length
   · rw[List.getElem?_append_left hlt]at hj
     obtain⟨v,hv⟩:=av j x hj
     exact⟨v,fun hle=>by omega,hv⟩
   · rw[List.getElem?_append_right (by omega)]at hj
     have hlt2:j-a0.length<J.Γ.tm.length:=by
      have:=List.getD_some_lt hj;omega
     obtain⟨⟨t,y⟩,hty⟩:∃z,J.Γ.tm[j-a0.length]? = some z:=⟨_,List.getElem?_eq_getElem hlt2⟩
     obtain⟨x',x2,y1,y2,y3,y4⟩:=pv _ t y hty
     rw[hj]at y3;cases y3
     refine⟨a.tmps.getD t undef,fun _=>⟨t,y,by rw[al];exact hty,rfl⟩,?_⟩
     exact (h.tms t [] _ y4).1 trivial) Inv.empty hsg
 obtain⟨hk,hbd,hob,hps⟩:=zg2 h st.inv c2
 have hlo:∀o g ob,J.Γ.obj o=some (g,ob)->g = []/\look o (obsOf J.Γ)=some ob/\verChk (J.nb+J.cnt) ob=true/\o<J.no:=by
  intro o g ob ho
  obtain⟨⟨b1,b2⟩,b3⟩:=c1 _ (zam ho)
  refine⟨by simpa using b1,by rw[zfA,ho];rfl,b2,Nat.le_of_ble_eq_true b3⟩
 have hrow:∀o ob,look o (obsOf J.Γ)=some ob->look o (rowObs (obsOf J.Γ))=some ob.asRow:=by
  intro o ob ho
  unfold rowObs
  rw[zbR Obj.asRow o (obsOf J.Γ),ho];rfl
 have hlo':∀o,kIn (rowObs (obsOf J.Γ)) o->∃g ob,J.Γ.obj o=some (g,ob):=by
  rintro o ⟨ob,ho⟩
  unfold rowObs at ho
  rw[zbR Obj.asRow o (obsOf J.Γ),zfA]at ho
  cases hx:J.Γ.obj o with
  |none=>rw[hx]at ho;cases ho
  |some y=>exact⟨y.1,y.2,rfl⟩
 -- where a whole row lies
 have whole:∀{x q:Nat} {off len:Exp},look x acc.th=some (.sl q off len)->wholeRow Γ q off len=true->kIn (rowObs (obsOf J.Γ)) x/\C'.A x=C.A q/\C'.N x=C.N q/\C'.K x=C.K q:=by
  intro x q off len hx hw
  obtain⟨ob',hb1,hB⟩:=st.inv _ _ hx
  obtain⟨dp,et',x',ti,rows,m,n,c,root,gr,obr,d',z1,z2,z3,z4,z5,z6,z7,z8,z9,z10,z11,z12,z13,z14,z15,z16,z17,z18,⟨dp2,vw,z19⟩,z20⟩:=hB
  unfold wholeRow at hw
  split at hw
  case h_2=>cases hw
  rename_i dpq etq d hq
  simp only[rowOf,hq]at z19
  split at z19
  · cases z19
    exact⟨⟨ob',hb1⟩,z20 hw⟩
  ·cases z19
 have hrel : Rel tab J.Γ (updL ρ J.nb (es.map (den ρ))) a.tmps w C' ⟨kIn (rowObs (obsOf J.Γ)), fun x => x < J.nb + J.cnt⟩ Wr w0 := {
  tms:=fun t g sv ht=>by
   obtain⟨j,hj⟩:=List.mem_iff_getElem?.1 (zam ht)
   obtain⟨x',x,y1,y2,y3,y4⟩:=pv j t (g,sv) hj
   cases y1
   refine⟨fun _=>?_,fun hn=>absurd trivial hn⟩
   obtain⟨v,v1,v2⟩:=hl2 (a'.length+j) x' (by rw[List.getElem?_append_right (by omega)];rw[show a'.length+j-a'.length=j by omega];exact y2)
   obtain⟨t2,y5,y6,y7⟩:=v1 (by omega)
   rw[show a'.length+j-a'.length=j by omega,hj]at y6
   cases y6
   subst y7
   exact S1Rel.mono v2 (fun o ho=>(hk o).2 ho) fun _ _=>⟨rfl,rfl,rfl⟩
  obs := fun o g ob ho => by
   obtain⟨b1,b2,b3,b4⟩:=hlo o g ob ho
   have b5:=hrow o ob b2
   refine⟨⟨_,b5⟩,?_,fun _=>?_⟩
   · cases ob with
     | row dp et d => cases dp with
       |false=>trivial
       | true =>
         unfold verChk at b3
         split at b3
         ·rename_i heq;cases heq;exact⟨_,rfl,Nat.le_of_ble_eq_true b3⟩
         ·cases b3
         ·rename_i heq;cases heq
         ·rename_i heq;cases heq
         ·cases b3
         ·rename_i heq;cases heq
     | view par pd i j et d =>
       have hv:=c8 _ (zam ho)
       simp only[viewOk]at hv
       split at hv
       · rename_i heq
         cases heq
         split at hv
         case h_2=>cases hv
         rename_i oq off len pq offp lenp hto htp
         simp only[Bool.and_eq_true]at hv
         refine⟨(whole htp hv.1).1,?_⟩
         unfold verChk at b3
         split at b3
         ·rename_i heq;cases heq
         ·cases b3
         ·rename_i heq;cases heq
         · rename_i heq;cases heq
           simp only[Bool.and_eq_true]at b3
           exact⟨_,rfl,Nat.le_of_ble_eq_true b3.1⟩
         ·cases b3
         ·rename_i heq;cases heq
       ·cases hv
       ·rename_i hh;exact absurd rfl (hh par pd i j et d)
     |box=>trivial
     |map=>trivial
   · cases ob with
     | row dp et d =>
       obtain⟨q1,q2⟩:=hob o _ b5
       exact q2.congrObj fun par pd i j et d he=>by cases he
     | box rw' cells =>
       obtain⟨q1,q2⟩:=hob o _ b5
       exact q2.congrObj fun par pd i j et d he=>by cases he
     | map k v d =>
       obtain⟨q1,q2⟩:=hob o _ b5
       exact q2.congrObj fun par pd i j et d he=>by cases he
     | view par pd i j et d =>
       have hv:=c8 _ (zam ho)
       simp only[viewOk]at hv
       split at hv
       · rename_i x heq
         cases heq
         split at hv
         case h_2=>cases hv
         rename_i oq off len pq offp lenp hto htp
         simp only[Bool.and_eq_true]at hv
         obtain⟨hv1,hv⟩:=hv
         obtain⟨kp,p1,p2,p3⟩:=whole htp hv1
         split at hv
         case h_2=>cases hv
         rename_i pv pdv iv jv etv dv pet pd' petq pdq hvo hJp hpq
         simp only[Bool.and_eq_true,beq_iff_eq,Bool.not_eq_true']at hv
         obtain⟨⟨⟨⟨⟨⟨⟨⟨⟨⟨v1,v2⟩,v3⟩,v4⟩,v5⟩,v6⟩,v7⟩,v8⟩,v9⟩,v10⟩,v11⟩:=hv
         have v1:=Nat.eq_of_beq_eq_true v1
         have v2:=Nat.eq_of_beq_eq_true v2
         have v3:=Nat.eq_of_beq_eq_true v3
         have v9:=Nat.eq_of_beq_eq_true v9
         subst v1;subst v2;subst v3;subst v8;subst v9;subst v10
         intro gp pet' hp' _
         rw[hJp]at hp';cases hp'
         obtain⟨m,b,base,rows,a1,a2,a3,a4,a5,⟨ti,t1,t2⟩,a8⟩:=(h.obs oq [] _ hvo).2.2 trivial [] _ hpq trivial
         obtain⟨rs,a5,a6,a7⟩:=a5.resolve_left (fun⟨o0,c,_⟩=>by rw[c]at v4;cases v4)
         -- the view lies where it lay
         obtain⟨ob',hb1,hB⟩:=st.inv _ _ hto
         obtain⟨dp,et',x',ti',rows',m2,n2,c2',root,gr,obr,d',z1,z2,z3,z4,z5,z6,z7,z8,z9,z10,z11,z12,z13,z14,z15,z16,z17,z18,⟨dp2,vw,z19⟩,z20⟩:=hB
         have hrw:rowOf Γ [] oq=some (true,etv,dv,true):=by
          simp only[rowOf,hvo,hpq,v4]
          simp[impl]
         rw[hrw]at z19
         cases z19
         obtain⟨w1,w2,w3⟩:=z20 v5
         refine⟨m,b,base,rows,?_,by rw[p2];exact a2,by rw[p1];exact a3,?_,.inr ⟨rs,?_,by rw[w2];exact a6,a7⟩,⟨ti,t1,t2⟩,by rw[w1,w2,w3];exact a8⟩
         ·rw[zdf v6 hsg hag];exact a1
         ·rw[zdf v11 hsg hag];exact a4
         ·rw[zdf v7 hsg hag];exact a5
       ·cases hv
       ·rename_i hh;exact absurd rfl (hh par pd i j et d)
  dis:=fun o o' g g' ob ob' ho ho' _ _ hne hown hvw=>by
   have b5:=hrow o ob (hlo o g ob ho).2.1
   have b5':=hrow o' ob' (hlo o' g' ob' ho').2.1
   have e1:ob.asRow=ob:=by cases ob<;>first|rfl|cases hown
   have e2:ob'.asRow=ob':=by cases ob'<;>first|rfl|cases hvw
   rw[e1]at b5;rw[e2]at b5'
   obtain⟨r1,hr1,hB1⟩:=hbd o ob b5
   obtain⟨r2,hr2,hB2⟩:=hbd o' ob' b5'
   refine hB1.dis h hB2 hown fun q x1 y1=>?_
   simp only[chkOwnV,List.all_eq_true]at c3
   have:=c3 _ (zam b5)
   simp only[hown,Bool.not_true,Bool.false_or,hr1,x1,List.all_eq_true]at this
   have:=this _ (zam hr2)
   have hnv:isVw (obsOf J.Γ) o'=false:=by
    unfold isVw
    rw[(hlo o' g' ob' ho').2.1]
    cases ob'<;>first|rfl|cases hvw
   simp only[y1,Nat.beq_refl,Bool.not_true,Bool.or_false,hnv]at this
   exact hne (Nat.eq_of_beq_eq_true this).symm
  own:=fun o g ob ho _ hown b x hf=>by
   have b5:=hrow o ob (hlo o g ob ho).2.1
   have e1:ob.asRow=ob:=by cases ob<;>first|rfl|cases hown
   rw[e1]at b5
   obtain⟨q,gq,obq,_,q2,q3,q4,q5⟩:=hps o ob b5 hown b x hf
   exact h.own q gq obq q2 q3 q4 b x q5
  frm:=h.frm }
 -- the ties
 simp only[tiesOk,Bool.and_eq_true,List.all_eq_true,decide_eq_true_eq]at c6
 obtain⟨c6,c7⟩:=c6
 have hgood:∀t∈J.ties,TieGood tab J.Γ (updL ρ J.nb (es.map (den ρ))) w C' ⟨kIn (rowObs (obsOf J.Γ)),fun x=>x<J.nb+J.cnt⟩ t/\¬kIn (rowObs (obsOf J.Γ)) t.q/\t.q<J.no/\t.q∉E:=by
  intro t ht
  have hok:=c7 t ht
  simp only[tieOk,Bool.and_eq_true,Bool.not_eq_true',Option.isNone_iff_eq_none]at hok
  obtain⟨⟨⟨k1,k2⟩,k3⟩,k4⟩:=hok
  refine⟨?_,?_,Nat.le_of_ble_eq_true k2,by simpa using k3⟩
  · split at k4
    case h_2=>cases k4
    rename_i oq off len pq offp lenp ho hp
    simp only[Bool.and_eq_true]at k4
    obtain⟨⟨k4,k5⟩,k6⟩:=k4
    split at k6
    case h_2=>cases k6
    rename_i pet pd' petq pdq hJp hpq
    simp only[Bool.and_eq_true,beq_iff_eq,List.any_eq_true,Bool.not_eq_true']at k6
    obtain⟨⟨⟨⟨k6,k7⟩,k8⟩,kk,k9,k10⟩,kpu⟩:=k6
    subst k6
    have k7:=Nat.eq_of_beq_eq_true k7
    subst k7
    obtain⟨ko,o1,o2,o3⟩:=whole ho k4
    obtain⟨kp,p1,p2,p3⟩:=whole hp k5
    unfold tieAt at k10
    split at k10
    case h_2=>cases k10
    rename_i pv pdv iv jv etv dv hk
    simp only[Bool.and_eq_true,beq_iff_eq]at k10
    obtain⟨⟨⟨⟨⟨r1,r2⟩,r3⟩,r4⟩,r5⟩,r6⟩:=k10
    have r1:=Nat.eq_of_beq_eq_true r1
    have r3:=Nat.eq_of_beq_eq_true r3
    have r4:=Nat.eq_of_beq_eq_true r4
    subst r1 r2 r3 r4 r5
    obtain⟨m,b,base,rows,a1,a2,a3,a4,a5,⟨ti,t1,t2⟩,a8⟩:=(h.obs kk [] _ hk).2.2 trivial [] _ hpq trivial
    have hdr:C.A kk=C.A oq/\C.N kk=C.N oq/\C.K kk=C.K oq:=by
     rcases a5 with⟨o0,c1,_,c3⟩|⟨rs,c1,_⟩
     · have:oq=o0:=by injection c1 with c1 _;injection c1
       subst this;exact c3
     ·cases c1
    have hv:=(hrel.obs t.par [] _ hJp).2.1.var kpu
    refine⟨_,ti,m,b,base,rows,hJp,kp,ko,hv,?_,by rw[p2];exact a2,by rw[p1];exact a3,?_,t1,t2,?_⟩
    ·rw[zdf r6 hsg hag];exact a1
    ·rw[zdf k8 hsg hag];exact a4
    ·rw[o1,o2,o3,<- hdr.1,<- hdr.2.1,<- hdr.2.2];exact a8
  · intro hk'
    obtain⟨g,ob,hob⟩:=hlo' _ hk'
    unfold Gam.obj at hob
    rw[k1]at hob;cases hob
 obtain⟨C'',kn'',g1,g2,g3,g4,g5⟩:=zie J.ties J.Γ C' _ hrel (fun t ht=>(hgood t ht).1) (fun t ht=>(hgood t ht).2.1) c6
 refine⟨_,⟨⟨C'',g1,fun o hE hko=>?_⟩,s2,fun t ht=>?_,s4⟩,fun o ho=>?_,fun x hx=>by rw[g4]at hx;exact hx⟩
 · rcases g3 o hko with hk'|⟨t,ht,rfl⟩
   · obtain⟨k1,k2,k3,k4⟩:=zcV st.inv c4 h o hE hk'
     obtain⟨z1,z2,z3⟩:=hkeep o hE k1
     obtain⟨u1,u2,u3⟩:=g2 o hk'
     exact⟨u1.trans (k2.trans z1),u2.trans (k3.trans z2),u3.trans (k4.trans z3)⟩
   ·exact absurd hE (hgood t ht).2.2.2
 · unfold Join.full at ht
   rw[zar]at ht
   cases hx:J.Γ.get t with
   |none=>exact absurd hx ht
   | some y =>
     obtain⟨j,hj⟩:=List.mem_iff_getElem?.1 (zam hx)
     obtain⟨x',x,y1,y2,y3,y4⟩:=pv j t y hj
     exact s3 t (by rw[y4];simp)
 · rcases g3 o ho with hk'|⟨t,ht,rfl⟩
   · obtain⟨g,ob,hg⟩:=hlo' o hk'
     exact (hlo o g ob hg).2.2.2
   ·exact (hgood t ht).2.2.1
end
end Gp
namespace Gp
open Go
def resS (tab:Tab)(Γ:Gam):ResultVar->Option S1
 | .tmp t => match Γ.get t with
   |some ([],.s x)=>some x
   |_=>none
 | .cell a t => match Γ.get a, tab.get t with
   | some ([], .s (.one (.pb o j))), some ti => match Γ.obj o with
     | some ([], .box _ cells) => if Nat.beq ((cells.drop j).take ti.size).length ti.size then match svOf ti.agg ((cells.drop j).take ti.size) with
      |some (.s x)=>some x
      |_=>none
       else none
     |_=>none
   |_,_=>none
def isRow (Γ:Gam)(o:Nat):Bool:=match Γ.obj o with
 |some ([],.row ..)=>true
 |_=>false
def extraObs (Γ:Gam)(oobs:Obs):Obs->Nat->Obs
 |[],_=>[]
 |(o,.row _ et _)::r,n=>if (look o oobs).isNone&&isRow Γ o then (o,.row false et (.var n))::extraObs Γ oobs r (n+1) else extraObs Γ oobs r n
 |_::r,n=>extraObs Γ oobs r n
def ownedAll (l:Obs):Bool:=l.all fun x=>x.2.owned
def anRetL (tab:Tab)(S:Sig)(Γ:Gam)(results:List ResultVar)(L:Obs):Option (List Exp) :=
 let ext:=extraObs Γ S.oobs L S.nout
 let obs:=S.oobs++ext
 let E:=S.obs.map (·.1)
 match artsOf Γ obs E,results.mapM (resS tab Γ) with
 | some (a', a), some xs => match mS1s tab Γ [] 0 obs (a' ++ S.outs) (a ++ xs) ⟨[], []⟩ with
   | some acc =>
     if allBound obs acc.th&&chkOwn Γ obs acc.th&&wholeAll Γ obs acc.th E&&ownedAll S.oobs&&S.outs.all (S1.bnd S.nout)&&S.oobs.all (fun x=>x.2.bnd S.nout)&&acc.sg.all (fun p=>Nat.blt p.1 (S.nout+ext.length)) then
      match sgArgs acc.sg (S.nout+ext.length) 0 with
      |some es=>some (es.take S.nout)
      |none=>none
     else none
   |none=>none
 |_,_=>none
def anRet (tab:Tab)(S:Sig)(Γ:Gam)(results:List ResultVar):Option (List Exp) :=
 match anRetL tab S Γ results S.obs with
 |some es=>some es
 |none=>anRetL tab S Γ results (S.obs.filter fun x=>!x.2.owned)
section
variable {tab:Tab}{Γ Γ':Gam}{ρ ρ':Env}{tm:Array Value}{w w':World}{C C0 C1 Cx:Ctx}{kn kn':Kn}{Wr:CS}{w0:World}{P:Program}{G:Grd}{nx no nx' no' nb:Nat}{obs:Obs}{S:Sig}{sigs:List Sig}
theorem zfD (hT:TabOk P tab)(h:Rel tab Γ ρ tm w C kn Wr w0){r:ResultVar}{x:S1}(hr:resS tab Γ r=some x) :
 ∃v,((match r with|.tmp t=>pure (tm.getD t undef)|.cell a t=>do loadVar t (<- asAddr (tm.getD a undef)):Sem Value)).run P w = .ok v w/\S1Rel tab C kn.o ρ x v:=by
 cases r with
 | tmp t =>
   simp only[resS]at hr
   split at hr
   · rename_i y hy
     cases hr
     exact⟨_,rfl,(h.tms t [] _ hy).1 trivial⟩
   ·cases hr
 | cell a t =>
   simp only[resS]at hr
   split at hr
   case h_2=>cases hr
   rename_i o j ti ha hti
   split at hr
   case h_2=>cases hr
   rename_i rw' cells ho
   split at hr
   case isFalse=>cases hr
   rename_i hc
   have hc:=Nat.eq_of_beq_eq_true hc
   split at hr
   case h_2=>cases hr
   rename_i y hsv
   cases hr
   obtain⟨⟨hk,b,base,hA,hv⟩,_⟩:=(h.tms a [] _ ha).1 trivial
   obtain⟨b',base',⟨_,hA'⟩,hF,hcell,_⟩:=(h.obs o [] _ ho).2.2 trivial
   rw[hA]at hA';cases hA'
   obtain⟨v,h1,h2⟩:=zbt (w:=w) (P:=P) (C:=C) (ρ:=ρ) (k:=kn.o) hT hti (b:=b) (o:=base+j) hsv hc (fun q l hq=>by
    have hq':=List.getD_some_lt hq
    rw[hc]at hq'
    rw[List.getElem?_take_of_lt hq',List.getElem?_drop]at hq
    obtain⟨v,v1,v2⟩:=hcell (j+q) l hq
    exact⟨v,by rw[<- v1];congr 1;omega,v2⟩)
   refine⟨v,?_,h2⟩
   rw[<- h1]
   simp only[hv,asAddr,Instr.loadAt,Instr.sureAddr,Sem.run_bind,Sem.run_pure,Result.andThen_ok]
theorem zbs:∀(l:Obs) (n:Nat) {o:Nat},kIn (extraObs Γ obs l n) o->o∈l.map (·.1)
 |[],n,o,⟨ob,h⟩=>by simp[extraObs,look]at h
 | (k, .row dp et d) :: r, n, o, ⟨ob, h⟩ => by
   simp only[extraObs]at h
   split at h
   · by_cases e:k=o
     ·subst e;simp
     · rw[zaj e]at h
       exact List.mem_cons_of_mem _ (zbs r _ ⟨ob,h⟩)
   ·exact List.mem_cons_of_mem _ (zbs r _ ⟨ob,h⟩)
 |(k,.view ..)::r,n,o,⟨ob,h⟩=>by simp only[extraObs]at h;exact List.mem_cons_of_mem _ (zbs r _ ⟨ob,h⟩)
 |(k,.box ..)::r,n,o,⟨ob,h⟩=>by simp only[extraObs]at h;exact List.mem_cons_of_mem _ (zbs r _ ⟨ob,h⟩)
 |(k,.map ..)::r,n,o,⟨ob,h⟩=>by simp only[extraObs]at h;exact List.mem_cons_of_mem _ (zbs r _ ⟨ob,h⟩)
theorem zbH {α:Type}(k:Nat):∀(a b:List (Nat × α)),look k (a++b)=match look k a with|some x=>some x|none=>look k b
 |[],b=>rfl
 | (q, x) :: a, b => by
   simp only[List.cons_append,look]
   split
   ·rfl
   ·exact zbH k a b
theorem ObRel.agree{n:Nat}(ha:Agree n ρ ρ'){o:Nat}{ob:Obj}{k:Nat->Prop}(hv:ob.isView=false)(hb:ob.bnd n=true)(h:ObRel tab C k ρ noGam w o ob):ObRel tab C k ρ' noGam w o ob:=by
 cases ob with
 | row dp et d =>
   obtain⟨rows,r1,r2⟩:=h
   exact⟨rows,by rw[zai ha d hb];exact r1,r2⟩
 |view=>cases hv
 | map k v d =>
   obtain⟨r,es,cl,ents,m1,m2,m3,m4,m5⟩:=h
   exact⟨r,es,cl,ents,m1,m2,m3,by rw[zai ha d hb];exact m4,m5⟩
 | box rw' cells =>
   simp only[Obj.bnd,List.all_eq_true]at hb
   obtain⟨b,base,r1,r2,r3,r4⟩:=h
   refine⟨b,base,r1,r2,fun j l hj=>?_,r4⟩
   obtain⟨v,v1,v2⟩:=r3 j l hj
   exact⟨v,v1,Leaf.agree ha (hb l (List.mem_of_getElem? hj)) v2⟩
theorem zdK {nt:Nat}{a:Act}{fn:Func}{es:List Exp}{L:Obs}(hL:∀o,o∈L.map (·.1)->o∈S.obs.map (·.1))(hT:TabOk P tab)(hst:St tab nt (· ∈ S.obs.map (·.1)) C0 Γ ρ a w [] kn (WrOf S.obs C0) w0)(hr:anRetL tab S Γ fn.results.toList L=some es) :
 ∃v C',(Go.results fn a.tmps).run P w = .ok v w/\OutRel tab S (envOf (es.map (den ρ))) C0 C' w0 w v:=by
 obtain⟨⟨C,h,hkeep⟩,s2,s3,s4⟩:=hst
 unfold anRetL at hr
 simp only at hr
 split at hr
 case h_2=>cases hr
 rename_i a' a0 xs ha hxs
 split at hr
 case h_2=>cases hr
 rename_i acc hacc
 split at hr
 case isFalse=>cases hr
 rename_i hchk
 simp only[Bool.and_eq_true]at hchk
 obtain⟨⟨⟨⟨⟨⟨c2,c3⟩,c4⟩,c5⟩,c6⟩,c7⟩,c8⟩:=hchk
 split at hr
 case h_2=>cases hr
 rename_i es0 hes
 cases hr
 obtain⟨e1,e2⟩:=zbJ hes
 obtain⟨al,av⟩:=zaG h ha
 obtain⟨xl,xv⟩:=zaI hxs
 simp only[List.all_eq_true]at c6 c7 c8
 have hsg:∀x e,look x acc.sg=some e->envOf (es0.map (den ρ)) x=den ρ e:=by
  intro x e hx
  have b2:x<S.nout+(extraObs Γ S.oobs L S.nout).length:=Nat.le_of_ble_eq_true (c8 _ (zam hx))
  obtain⟨e',h1,h2⟩:=e2 x b2
  rw[Nat.zero_add,hx]at h1;cases h1
  simp only[envOf,List.getD_eq_getElem?_getD,List.getElem?_map,h2];rfl
 -- the results' values
 have hval:∀r∈fn.results,∃v,((match r with|.tmp t=>pure (a.tmps.getD t undef)|.cell a2 t=>do loadVar t (<- asAddr (a.tmps.getD a2 undef)):Sem Value)).run P w = .ok v w:=by
  intro r hr
  obtain⟨i,hi⟩:=List.mem_iff_getElem?.1 (Array.mem_toList_iff.2 hr)
  have:i<xs.length:=by rw[xl];exact List.getD_some_lt hi
  obtain⟨x,hx⟩:∃x,xs[i]? = some x:=⟨_,List.getElem?_eq_getElem this⟩
  obtain⟨r',h1,h2⟩:=xv i x hx
  rw[hi]at h1;cases h1
  obtain⟨v,h3,_⟩:=zfD hT h h2
  exact⟨v,h3⟩
 let g:ResultVar->Value:=fun r=>open Classical in if hh:∃v,((match r with|.tmp t=>pure (a.tmps.getD t undef)|.cell a2 t=>do loadVar t (<- asAddr (a.tmps.getD a2 undef)):Sem Value)).run P w = .ok v w then Classical.choose hh else undef
 have hg:∀r∈fn.results,((match r with|.tmp t=>pure (a.tmps.getD t undef)|.cell a2 t=>do loadVar t (<- asAddr (a.tmps.getD a2 undef)):Sem Value)).run P w = .ok (g r) w:=by
  intro r hr
  have hh:=hval r hr
  simp only[g,dif_pos hh]
  exact Classical.choose_spec hh
 obtain⟨C',st,hl1,hl2⟩:=zcp (nb:=0) (ρ':=envOf (es0.map (den ρ))) (C':=C) hT h (G:=[]) trivial (fun x hx=>by omega)
  (fun j v=>a'.length<=j->∃r,fn.results.toList[j-a'.length]? = some r/\v=g r) hacc (fun j x hj=>by
   by_cases hlt:j<a0.length
   · rw[List.getElem?_append_left hlt]at hj
     obtain⟨v,hv⟩:=av j x hj
     exact⟨v,fun hle=>by omega,hv⟩
   · rw[List.getElem?_append_right (by omega)]at hj
     obtain⟨r,h1,h2⟩:=xv _ x hj
     obtain⟨v,h3,h4⟩:=zfD hT h h2
     have hm:r∈fn.results:=Array.mem_toList_iff.1 (List.mem_of_getElem? h1)
     have:=hg r hm
     rw[h3]at this
     cases this
     exact⟨g r,fun _=>⟨r,by rw[al];exact h1,rfl⟩,h4⟩) Inv.empty hsg
 obtain⟨hk,hbd,hob,hds,hps⟩:=zgf h st.inv c2 c3
 have hoo:∀o ob,look o S.oobs=some ob->look o (S.oobs++extraObs Γ S.oobs L S.nout)=some ob:=by
  intro o ob ho;rw[zbH,ho]
 have hag:Agree S.nout (envOf (es0.map (den ρ))) (envOf ((es0.take S.nout).map (den ρ))):=by
  intro x hx
  simp only[envOf,List.getD_eq_getElem?_getD,List.getElem?_map,List.getElem?_take_of_lt hx]
 -- where things lie at the exit
 let C2:Ctx:=open Classical in
  { A := fun o => if kIn S.obs o /\ ¬ kIn (S.oobs ++ extraObs Γ S.oobs L S.nout) o then C0.A o else C'.A o
    N:=fun o=>if kIn S.obs o/\¬kIn (S.oobs++extraObs Γ S.oobs L S.nout) o then C0.N o else C'.N o
    K:=fun o=>if kIn S.obs o/\¬kIn (S.oobs++extraObs Γ S.oobs L S.nout) o then C0.K o else C'.K o
    F:=C'.F }
 have hC2:∀o,kIn (S.oobs++extraObs Γ S.oobs L S.nout) o->C2.A o=C'.A o/\C2.N o=C'.N o/\C2.K o=C'.K o:=by
  intro o ho
  have:¬(kIn S.obs o/\¬kIn (S.oobs++extraObs Γ S.oobs L S.nout) o):=fun hh=>hh.2 ho
  simp only[C2,if_neg this,and_self]
 have hkk:∀o,kIn (S.oobs++extraObs Γ S.oobs L S.nout) o->kIn S.obs o\/kIn S.oobs o:=by
  rintro o ⟨ob,ho⟩
  rw[zbH]at ho
  cases hx:look o S.oobs with
  |some y=>exact .inr ⟨y,hx⟩
  | none =>
    rw[hx]at ho
    obtain⟨x,hx1,hx2⟩:=List.mem_map.1 (hL _ (zbs _ _ ⟨ob,ho⟩))
    left
    -- a key of the list is looked up in it
    have : ∀ (l : Obs) (k : Nat), k ∈ l.map (·.1) -> kIn l k := by
     intro l
     induction l with
     |nil=>intro k hk;simp at hk
     | cons p l ih =>
       intro k hk
       by_cases e:p.1=k
       · obtain⟨p1,p2⟩:=p
         simp only at e;subst e
         exact⟨p2,zag⟩
       · obtain⟨p1,p2⟩:=p
         simp only[List.map_cons,List.mem_cons]at hk
         rcases hk with hk|hk
         ·exact absurd hk.symm e
         · obtain⟨y,hy⟩:=ih k hk
           exact⟨y,by rw[zaj e];exact hy⟩
    exact this _ _ (hL _ (zbs _ _ ⟨ob,ho⟩))
 have hmono:∀{x:S1} {v:Value},x∈S.outs->S1Rel tab C' (kOf acc) (envOf (es0.map (den ρ))) x v->S1Rel tab C2 (fun o=>kIn S.obs o\/kIn S.oobs o) (envOf ((es0.take S.nout).map (den ρ))) x v:=by
  intro x v hx hh
  exact (S1.agree hag (c6 x hx) hh).mono (fun o ho=>hkk o ((hk o).2 ho)) fun o ho=>hC2 o ((hk o).2 ho)
 have hmap:(fn.results.mapM (fun r=>(match r with|.tmp t=>pure (a.tmps.getD t undef)|.cell a2 t=>do loadVar t (<- asAddr (a.tmps.getD a2 undef)):Sem Value))).run P w = .ok (fn.results.map g) w:=zdC _ hg
 have hrun:(Go.results fn a.tmps).run P w = .ok (if h:(fn.results.map g).size=1 then (fn.results.map g)[0] else .tuple (fn.results.map g)) w:=by
  unfold Go.results
  rw[Sem.run_bind]
  have:(fn.results.mapM (fun x=>match x with|.tmp t=>pure (a.tmps.getD t undef)|.cell a2 t=>do loadVar t (<- asAddr (a.tmps.getD a2 undef)):ResultVar->Sem Value)).run P w = .ok (fn.results.map g) w:=hmap
  erw[this]
  rfl
 have hln:S.outs.length=fn.results.size:=by
  have:(a'++S.outs).length=(a0++xs).length:=hl1
  simp only[List.length_append]at this
  have h2:fn.results.toList.length=fn.results.size:=rfl
  omega
 have hout:∀(j:Nat) x,S.outs[j]? = some x->∃u,(fn.results.map g)[j]? = some u/\S1Rel tab C2 (fun o=>kIn S.obs o\/kIn S.oobs o) (envOf ((es0.take S.nout).map (den ρ))) x u:=by
  intro j x hj
  obtain⟨v,v1,v2⟩:=hl2 (a'.length+j) x (by rw[List.getElem?_append_right (by omega)];rw[show a'.length+j-a'.length=j by omega];exact hj)
  obtain⟨r,y1,y2⟩:=v1 (by omega)
  rw[show a'.length+j-a'.length=j by omega]at y1
  subst y2
  refine⟨g r,?_,hmono (List.mem_of_getElem? hj) v2⟩
  have:fn.results[j]? = some r:=by simpa using y1
  rw[Array.getElem?_map,this];rfl
 refine⟨_,C2,hrun,?_,?_,?_,?_,?_,?_⟩
 · unfold ResRel
   split
   · rename_i x hx
     rw[hx]at hln hout
     have h1:(fn.results.map g).size=1:=by simpa using hln.symm
     rw[dif_pos h1]
     obtain⟨u,h2,h3⟩:=hout 0 x rfl
     have:(fn.results.map g)[0]=u:=by
      have:=Array.getElem?_eq_getElem (xs:=fn.results.map g) (i:=0) (by omega)
      rw[h2]at this;cases this;rfl
     rw[this];exact h3
   · rename_i hne
     have h1:¬(fn.results.map g).size=1:=by
      intro h1
      rw[Array.size_map,<- hln]at h1
      match hm:S.outs,h1 with
      |[x],_=>exact hne x hm
     rw[dif_neg h1]
     exact⟨_,rfl,by simp[hln],hout⟩
 · intro o ob ho
   obtain⟨q1,q2⟩:=hob o ob (hoo o ob ho)
   refine⟨q1,?_⟩
   have hb:=c7 _ (zam ho)
   have h1:=ObRel.agree hag q1 hb q2
   exact h1.mono (fun o ho=>hkk o ho) ⟨ob,hoo o ob ho⟩ (fun o ho=>hC2 o ho) rfl fun par pd i j et d he=>by rw[he]at q1;cases q1
 · intro o1 o2 ob1 ob2 ho1 ho2 hne hown
   exact hds o1 o2 ob1 ob2 (hoo o1 ob1 ho1) (hoo o2 ob2 ho2) hne hown
 · intro o ob ho b x hf
   have hown:ob.owned=true:=by
    simp only[ownedAll,List.all_eq_true]at c5
    exact c5 _ (zam ho)
   obtain⟨q,gq,obq,_,q2,q3,q4,q5⟩:=hps o ob (hoo o ob ho) hown b x hf
   exact h.own q gq obq q2 q3 q4 b x q5
 · intro o ho
   by_cases hx:kIn (S.oobs++extraObs Γ S.oobs L S.nout) o
   · obtain⟨y1,y2,y3⟩:=hC2 o hx
     obtain⟨ob,hoo2⟩:=ho
     have hE:o∈S.obs.map (·.1):=List.mem_map.2 ⟨(o,ob),zam hoo2,rfl⟩
     obtain⟨k1,k2,k3,k4⟩:=zcV st.inv c4 h o hE hx
     obtain⟨z1,z2,z3⟩:=hkeep o hE k1
     exact⟨y1.trans (k2.trans z1),y2.trans (k3.trans z2),y3.trans (k4.trans z3)⟩
   · have:kIn S.obs o/\¬kIn (S.oobs++extraObs Γ S.oobs L S.nout) o:=⟨ho,hx⟩
     simp only[C2,if_pos this,and_self]
 ·exact⟨h.frm.size,h.frm.blk,h.frm.cel,h.frm.os,h.frm.tape,h.frm.output⟩
theorem zep {nt:Nat}{a:Act}{fn:Func}{es:List Exp}(hT:TabOk P tab)(hst:St tab nt (· ∈ S.obs.map (·.1)) C0 Γ ρ a w [] kn (WrOf S.obs C0) w0)(hr:anRet tab S Γ fn.results.toList=some es) :
 ∃v C',(Go.results fn a.tmps).run P w = .ok v w/\OutRel tab S (envOf (es.map (den ρ))) C0 C' w0 w v:=by
 unfold anRet at hr
 split at hr
 · rename_i es' he
   cases hr
   exact zdK (fun o h=>h) hT hst he
 · refine zdK (fun o h=>?_) hT hst hr
   obtain⟨x,hx,e⟩:=List.mem_map.1 h
   exact List.mem_map.2 ⟨x,(List.mem_filter.1 hx).1,e⟩
end
end Gp
namespace Gp
open Go
abbrev Pt:=Gam × Nat × Nat
abbrev PP:=List Nat × List (Nat × Nat)
def ppRun (tab : Tab) (x : PP) (pt : Pt) : Option (List (Grd × SI) × Pt) :=
 if pt.1.bnd pt.2.1 then match takes tab x.1 pt.1 pt.2.1 pt.2.2 with
  | some (up, si, _, nx, no) =>
    let y:=puts tab x.2 (pt.1.appOb up) nx
    if ssaL pt.2.1 (si++y.2.1)==some y.2.2 then some (si++y.2.1,((pt.1.appOb up).appOb y.1,y.2.2,no)) else none
  |none=>none
 else none
section
variable {tab:Tab}{Γ:Gam}{ρ ρ':Env}{w:World}{C0:Ctx}{kn:Kn}{Wr:CS}{w0:World}{P:Program}{nx no:Nat}{sigs:List Sig}
theorem zh6 {E:Nat->Prop}{nt:Nat}{a:Act}{ds:List Deferred}{x:PP}{pt pt':Pt}{sis:List (Grd × SI)}{ex:Ex}(hr:ppRun tab x pt=some (sis,pt'))(hst:St tab nt E C0 pt.1 ρ a w ds kn Wr w0)
 (hE:∀o,E o->o<pt.2.2) (hkn:kn.below pt.2.1 pt.2.2) (hb:BigC (CallOk P tab sigs) (.sis sis) ρ ex ρ') :
 ex = .normal/\pt.2.2<=pt'.2.2/\∃kn',St tab nt E C0 pt'.1 ρ' a w ds kn' Wr w0/\kn'.below pt'.2.1 pt'.2.2:=by
 unfold ppRun at hr
 split at hr
 case isFalse=>cases hr
 rename_i hbnd
 split at hr
 case h_2=>cases hr
 rename_i up si ties nx1 no1 ht
 simp only at hr
 split at hr
 case isFalse=>cases hr
 rename_i hssa
 simp only[beq_iff_eq]at hssa
 cases hr
 obtain⟨e1,e2,e3,e4⟩:=zhA _ hssa hb
 obtain⟨⟨C,hrel,hkeep⟩,s2,s3,s4⟩:=hst
 have hrel':=hrel.agree e3 hbnd
 have hpl:=zex (tab:=tab) x.2 (pt.1.appOb up) nx1
 obtain⟨l1,l2,C1,kn1,q1,q2,q3,q4,q5,q6⟩:=zcA _ hrel' ht e4.left (fun y h1 h2 hk=>by have:=hkn.2 y hk;omega) (fun y h1 h2 hk=>by have:=hkn.1 y hk;omega)
 obtain⟨C2,kn2,p1,p2,p3,p4,p5⟩:=zd4 x.2 q1 e4.right (fun y h1 h2 hk=>by
  rcases q5 y hk with hk|hk
  ·have:=hkn.2 y hk;omega
  ·omega)
 refine⟨e1,l2,kn2,⟨⟨C2,p1,fun o ho hk=>?_⟩,s2,fun t ht'=>?_,s4⟩,fun o ho=>?_,fun y hy=>?_⟩
 · obtain⟨y1,y2,y3⟩:=p2 o
   have hko:kn.o o:=by
    rcases q4 o (p4 o hk) with hk|hk
    ·exact hk
    ·have:=hE o ho;omega
   obtain⟨u1,u2,u3⟩:=q2 o hko
   obtain⟨v1,v2,v3⟩:=hkeep o ho hko
   exact⟨y1.trans (u1.trans v1),y2.trans (u2.trans v2),y3.trans (u3.trans v3)⟩
 · dsimp only at ht'
   rw[zar,zar]at ht'
   exact s3 t ht'
 · dsimp only
   rcases q4 o (p4 o ho) with hk|hk
   ·have:=hkn.1 o hk;omega
   ·omega
 · dsimp only
   rcases p5 y hy with hk|hk
   · rcases q5 y hk with hk|hk
     ·have:=hkn.2 y hk;omega
     ·omega
   ·omega
end
end Gp
namespace Gp
open Go
def lendG (Γ:Gam)(o:Nat):Gam:=match Γ.obj o with
 |some (g,.row true et d)=>Γ.setOb o (g,.row false et d)
 |_=>Γ
def lendPt (o:Nat)(pt:Pt):Pt:=(lendG pt.1 o,pt.2)
theorem Rel.lend{tab:Tab}{Γ:Gam}{ρ:Env}{tm:Array Value}{w:World}{C:Ctx}{kn:Kn}{Wr:CS}{w0:World}(h:Rel tab Γ ρ tm w C kn Wr w0)(o:Nat) :
 ∃C',Rel tab (lendG Γ o) ρ tm w C' kn Wr w0/\∀q,C'.A q=C.A q/\C'.N q=C.N q/\C'.K q=C.K q:=by
 unfold lendG
 split
 case h_2=>exact⟨C,h,fun _=>⟨rfl,rfl,rfl⟩⟩
 rename_i g et d ho
 obtain⟨k1,k2,k3⟩:=h.obs o g _ ho
 have hF:∃F',Sub F' (C.F o)/\(holdsG ρ g->∃rows,den ρ d = .list rows/\DRel tab w false (.sl et) (.slice (C.A o) (C.N o) (C.K o)) (.list rows) F'):=by
  by_cases hg:holdsG ρ g
  · obtain⟨rows,e,D⟩:=k3 hg
    obtain⟨F',s,D'⟩:=D.share
    exact⟨F',s,fun _=>⟨rows,e,D'⟩⟩
  ·exact⟨C.F o,Sub.refl _,fun hg'=>absurd hg' hg⟩
 obtain⟨F',hs,hD⟩:=hF
 have hCA:∀q,(C.set o (C.A o) (C.N o) (C.K o) F').A q=C.A q/\(C.set o (C.A o) (C.N o) (C.K o) F').N q=C.N q/\(C.set o (C.A o) (C.N o) (C.K o) F').K q=C.K q:=by
  intro q
  by_cases e:q=o
  ·subst e;exact⟨Ctx.set_self.1,Ctx.set_self.2.1,Ctx.set_self.2.2.1⟩
  ·exact⟨(Ctx.set_ne e).1,(Ctx.set_ne e).2.1,(Ctx.set_ne e).2.2.1⟩
 refine⟨C.set o (C.A o) (C.N o) (C.K o) F',?_,hCA⟩
 have one:∀q x,look q [(o,(g,Obj.row false et d))]=some x->q=o/\x=(g,.row false et d):=by
  intro q x hq
  simp only[look]at hq
  split at hq
  ·rename_i hb;exact⟨(Nat.eq_of_beq_eq_true hb).symm,(Option.some.inj hq).symm⟩
  ·cases hq
 refine (h.delOb o).addL (L:=[(o,(g,.row false et d))]) (fun _=>rfl) (fun q=>?_) (fun q x hq=>?_) (Kn.le.refl kn) (fun q x hq=>?_) (fun q _=>hCA q) (fun q x hq=>?_) (fun q g' ob hq=>?_) (fun o1 o2 g1 g2 ob1 ob2 h1 h2 _ _ hne=>?_) (fun o1 o2 g1 g2 ob1 ob2 h1 h2 hg1 hg2 hv hor=>?_) (fun q g' ob hq _ hw=>?_)
 · by_cases e:o=q
   ·subst e;simp[look,Gam.obj_setOb_self]
   · have:Nat.beq o q=false:=by rw[<- Bool.not_eq_true];intro hb;exact e (Nat.eq_of_beq_eq_true hb)
     simp only[look,this,Bool.false_eq_true,if_false,Gam.obj_setOb_ne _ _ e,Gam.obj_delOb_ne _ e]
 · obtain⟨rfl,_⟩:=one _ _ hq
   exact Gam.obj_delOb_self ..
 · obtain⟨rfl,_⟩:=one _ _ hq
   exact k1
 · by_cases e:q=o
   ·subst e;rw[Gam.obj_delOb_self]at hq;cases hq
   ·exact (Ctx.set_ne e).2.2.2
 · obtain⟨rfl,e⟩:=one _ _ hq
   cases e
   refine⟨rfl,trivial,fun _ _ e=>(by cases e),fun hg=>?_⟩
   obtain⟨rows,e1,D⟩:=hD hg
   refine⟨rows,e1,?_⟩
   rw[Ctx.set_self.1,Ctx.set_self.2.1,Ctx.set_self.2.2.1,Ctx.set_self.2.2.2]
   exact D
 ·exact absurd ((one _ _ h1).1.trans (one _ _ h2).1.symm) hne
 · obtain⟨rfl,e⟩:=one _ _ h1
   cases e
   have e2:o1≠o2:=by rintro rfl;rw[Gam.obj_delOb_self]at h2;cases h2
   rw[Gam.obj_delOb_ne _ e2]at h2
   rcases hor with hor|hor
   ·cases hor
   · rw[Ctx.set_self.2.2.2]
     exact (h.dis o2 o1 _ _ ob2 _ h2 ho hg2 hg1 (fun e=>e2 e.symm) hor rfl).symm.sub hs (Sub.refl _)
 · obtain⟨rfl,e⟩:=one _ _ hq
   cases e;cases hw
inductive Hint where
 |nil
 |reg (masks:MT)
 |seq (a b:Hint)
 |cond (J:Option Join) (a b:Hint)
 |block (J:Join) (a:Hint)
 |blockN (a:Hint)
 |loop (J:Join) (a:Hint)
 |wrap (pre:PP) (h:Hint) (post:PP)
 |lend (o:Nat) (h:Hint)
 |stuck
 deriving Repr,Inhabited
structure AX where
 tab:Tab
 sigs:List Sig
 nt:Nat
 S:Sig
 res:List ResultVar
 no0:Nat
def movTo (J:Join)(es:List Exp):PI:=.sis [([],.mov J.nb es)]
def AX.E (X:AX):List Nat:=X.S.obs.map (·.1)
def toJ (X:AX)(p:PI)(r:Option Pt)(J:Join):Option PI :=
 match r with
 |none=>some p
 | some (Γ, _, _) => if Nat.ble X.no0 J.no then match coe X.tab X.E Γ J with
   |some es=>some (.seq p (movTo J es))
   |none=>none
   else none
def Join.pt (J:Join):Pt:=(J.full,J.nb+J.cnt,J.no)
def condE (Γ:Gam)(c:Operand):Option Exp:=match opd Γ [] c with
 |some (.s (.one (.bool e)))=>some e
 |_=>none
def stuckPI:PI:=.seq (.sis [([],.chk (.bool false))]) (.exit 99999999)
def ppW (X:AX)(f:Hint->Pt->Option (PI × Option Pt))(h:Hint)(pt:Pt):Option (PI × Option Pt) :=
 match h with
 | .wrap pre h post => match ppRun X.tab pre pt with
   | some (s1, pt1) => match f h pt1 with
     | some (p, some pt2) => match ppRun X.tab post pt2 with
       |some (s2,pt3)=>some (.seq (.sis s1) (.seq p (.sis s2)),some pt3)
       |none=>none
     |some (p,none)=>some (.seq (.sis s1) p,none)
     |none=>none
   |none=>none
 |.lend o h=>ppW X f h (lendPt o pt)
 |.stuck=>some (stuckPI,none)
 |h=>f h pt
theorem zhr {J:Nat->List T->List T->Prop}{ρ ρ':Env}{ex:Ex}(h:BigC J stuckPI ρ ex ρ'):False:=by
 unfold stuckPI at h
 cases h with
 | seq h1 _ => cases h1 with
   |off hg _=>exact hg trivial
   |chk _ hd _=>simp[den]at hd
 | seqOut h1 _ => cases h1 with
   |off hg _=>exact hg trivial
   |chk _ hd _=>simp[den]at hd
def anCode (X:AX):Code->Hint->List (Nat × Join)->Pt->Option (PI × Option Pt)
 |.skip,h,_,pt=>ppW X (fun _ pt=>some (.skip,some pt)) h pt
 | .region _ ops draw, h, _, pt => ppW X (fun h pt => match anReg X.tab X.sigs X.nt pt.1 pt.2.1 pt.2.2 ops draw (match h with | .reg ms => ms | _ => .o) with
   |some (sis,pt)=>some (.sis sis,some pt)
   |none=>none) h pt
 | .seq a b, h, blk, pt => ppW X (fun h pt => match h with
   | .seq ha hb => match anCode X a ha blk pt with
     |some (pa,none)=>some (pa,none)
     | some (pa, some pt1) => match anCode X b hb blk pt1 with
       |some (pb,r)=>some (.seq pa pb,r)
       |none=>none
     |none=>none
   |_=>none) h pt
 | .cond c a b, h, blk, pt => ppW X (fun h pt => match h with
   | .cond J ha hb => match condE pt.1 c, anCode X a ha blk pt, anCode X b hb blk pt with
     |some e,some (pa,none),some (pb,rb)=>some (.cond e pa pb,rb)
     |some e,some (pa,some ra),some (pb,none)=>some (.cond e pa pb,some ra)
     | some e, some (pa, some ra), some (pb, some rb) => match J with
       | some J => match toJ X pa (some ra) J, toJ X pb (some rb) J with
         |some pa',some pb'=>some (.cond e pa' pb',some J.pt)
         |_,_=>none
       |none=>none
     |_,_,_=>none
   |_=>none) h pt
 | .block id a, h, blk, pt => ppW X (fun h pt => match h with
   | .block J ha => match anCode X a ha ((id, J) :: blk) pt with
     | some (pa, ra) => match toJ X pa ra J with
       |some p=>some (.block id p,some J.pt)
       |none=>none
     |none=>none
   | .blockN ha => match anCode X a ha (drop id blk) pt with
     |some (pa,none)=>some (.block id pa,none)
     |_=>none
   |_=>none) h pt
 | .loop a, h, blk, pt => ppW X (fun h pt => match h with
   | .loop J ha => match coe X.tab X.E pt.1 J, anCode X a ha blk J.pt with
     | some es, some (pa, ra) => if Nat.ble X.no0 J.no then match toJ X pa ra J with
       |some p=>some (.seq (movTo J es) (.loop p),none)
       |none=>none
       else none
     |_,_=>none
   |_=>none) h pt
 | .exit id, h, blk, pt => ppW X (fun _ pt => match look id blk with
   | some J => if Nat.ble X.no0 J.no then match coe X.tab X.E pt.1 J with
     |some es=>some (.seq (movTo J es) (.exit id),none)
     |none=>none
     else none
   |none=>none) h pt
 | .ret, h, _, pt => ppW X (fun _ pt => match anRet X.tab X.S pt.1 X.res with
   |some es=>some (.ret es,none)
   |none=>none) h pt
 |_,_,_,_=>none
section
variable {P:Program}{X:AX}{C0:Ctx}{w0:World}{fn:Func}
def At (X:AX)(C0:Ctx)(w0:World)(pt:Pt)(ρ:Env)(a:Act)(w:World):Prop :=
 ∃kn,St X.tab X.nt (· ∈ X.E) C0 pt.1 ρ a w [] kn (WrOf X.S.obs C0) w0/\kn.below pt.2.1 pt.2.2/\X.no0<=pt.2.2
def Fin (P:Program)(X:AX)(C0:Ctx)(w0:World)(fn:Func)(outs:List T)(a:Act)(w:World):Prop :=
 a.defers = []/\∃v C',(Go.results fn a.tmps).run P w = .ok v w/\OutRel X.tab X.S (envOf outs) C0 C' w0 w v
def CPost (P:Program)(X:AX)(C0:Ctx)(w0:World)(fn:Func)(blk:List (Nat × Join))(r:Option Pt)(ex:Ex)(ρ':Env)(e:Exit)(a:Act)(w:World):Prop :=
 match ex with
 |.normal=>e = .normal/\∃pt,r=some pt/\At X C0 w0 pt ρ' a w
 |.exit id=>e = .exit id/\∃J,look id blk=some J/\At X C0 w0 J.pt ρ' a w
 |.ret outs=>e = .ret/\Fin P X C0 w0 fn outs a w
def LoopW (P:Program)(c:Code)(Q:Exit->Act->World->Prop)(a:Act)(w:World):Prop :=
 ∀(b:Go.Frame) (k:List Item) (cs:List Go.Frame),∃e a' w',Q e a' w'/\Arrives P (lone (b.at a (.code c :: .inLoop c::k)) cs w) b k cs e a' w'
theorem zf8 {c:Code}{Q:Exit->Act->World->Prop}{a:Act}{w:World}(h:c.wp P (Exit.then (LoopW P c Q) Q) a w):LoopW P c Q a w:=by
 intro b k cs
 obtain⟨e,a₁,w₁,hq,harr⟩:=h b (.inLoop c::k) cs
 cases e with
 | normal =>
   obtain⟨e₂,a₂,w₂,hq₂,harr₂⟩:=hq b k cs
   exact⟨e₂,a₂,w₂,hq₂,.of_steps (Steps.trans harr (.one step_inLoop)) harr₂⟩
 |exit id=>exact⟨_,a₁,w₁,hq,.pass (x:=.inLoop c) rfl (fun _ _=>.inl (by simp)) harr⟩
 |goto l=>exact⟨_,a₁,w₁,hq,.pass (x:=.inLoop c) rfl (fun _ _=>.inl (by simp)) harr⟩
 |ret=>exact⟨_,a₁,w₁,hq,.pass (x:=.inLoop c) rfl (fun _ _=>.inl (by simp)) harr⟩
 |panic ch=>exact⟨_,a₁,w₁,hq,.pass (x:=.inLoop c) rfl (fun _ _=>.inl (by simp)) harr⟩
 |outgrown=>exact⟨_,a₁,w₁,hq,.pass (x:=.inLoop c) rfl (fun _ _=>.inl (by simp)) harr⟩
theorem zk1 {c:Code}{Q:Exit->Act->World->Prop}{a:Act}{w:World}(h:LoopW P c Q a w):(Code.loop c).wp P Q a w:=by
 intro b k cs
 obtain⟨e,a',w',hq,harr⟩:=h b k cs
 exact⟨e,a',w',hq,.of_steps (.one step_loop) harr⟩
variable {J:Nat->List T->List T->Prop}
theorem zcL {Jn:Join}{es:List Exp}{ρ ρ':Env}{ex:Ex}(h:BigC J (movTo Jn es) ρ ex ρ'):ex = .normal/\ρ'=updL ρ Jn.nb (es.map (den ρ)):=by
 unfold movTo at h
 cases h with
 |off hn _=>exact absurd trivial hn
 |mov _ h=>cases h;exact⟨rfl,rfl⟩
theorem At.coe(hT:TabOk P X.tab){Γ:Gam}{nx no:Nat}{ρ:Env}{a:Act}{w:World}(h:At X C0 w0 (Γ,nx,no) ρ a w){Jn:Join}{es:List Exp}(hc:coe X.tab X.E Γ Jn=some es)(hno:X.no0<=Jn.no) :
 At X C0 w0 Jn.pt (updL ρ Jn.nb (es.map (den ρ))) a w:=by
 obtain⟨kn,h1,h2,h3⟩:=h
 obtain⟨e1,kn',h4,h5⟩:=zju hT h1 hc
 exact⟨kn',h4,h5,hno⟩
theorem zcQ (hT:TabOk P X.tab){c:Code}{pa p:PI}{r:Option Pt}{Jn:Join}{blk:List (Nat × Join)}{ρ ρ':Env}{ex:Ex}{a:Act}{w:World}(ht:toJ X pa r Jn=some p)(hb:BigC J p ρ ex ρ')
 (h:∀ex1 ρ1,BigC J pa ρ ex1 ρ1->c.wp P (CPost P X C0 w0 fn blk r ex1 ρ1) a w):c.wp P (CPost P X C0 w0 fn blk (some Jn.pt) ex ρ') a w:=by
 unfold toJ at ht
 split at ht
 · cases ht
   refine wp_mono (h ex ρ' hb) fun e a w hq=>?_
   cases ex with
   |normal=>obtain⟨_,pt,h1,_⟩:=hq;cases h1
   |exit id=>exact hq
   |ret outs=>exact hq
 · rename_i Γ nx no
   split at ht
   case isFalse=>cases ht
   rename_i hno
   have hno:X.no0<=Jn.no:=Nat.le_of_ble_eq_true hno
   split at ht
   case h_2=>cases ht
   rename_i es hes
   cases ht
   cases hb with
   | seq h1 h2 =>
     obtain⟨rfl,rfl⟩:=zcL h2
     refine wp_mono (h _ _ h1) fun e a w hq=>?_
     obtain⟨q1,pt,q2,q3⟩:=hq
     cases q2
     exact⟨q1,_,rfl,q3.coe hT hes hno⟩
   | seqOut h1 hne =>
     refine wp_mono (h _ _ h1) fun e a w hq=>?_
     cases ex with
     |normal=>exact absurd rfl hne
     |exit id=>exact hq
     |ret outs=>exact hq
theorem CPost.lift{blk:List (Nat × Join)}{r r':Option Pt}{ex:Ex}{ρ':Env}{e:Exit}{a:Act}{w:World}(h:CPost P X C0 w0 fn blk r ex ρ' e a w)(hr:∀pt,r=some pt->r'=some pt):CPost P X C0 w0 fn blk r' ex ρ' e a w:=by
 cases ex with
 |normal=>obtain⟨h1,pt,h2,h3⟩:=h;exact⟨h1,pt,hr pt h2,h3⟩
 |exit id=>exact h
 |ret outs=>exact h
theorem At.pp{x:PP}{pt pt':Pt}{sis:List (Grd × SI)}{ρ ρ':Env}{ex:Ex}{a:Act}{w:World}(hE:∀o∈X.E,o<X.no0)(h:At X C0 w0 pt ρ a w)(hr:ppRun X.tab x pt=some (sis,pt'))
 (hb:BigC (CallOk P X.tab X.sigs) (.sis sis) ρ ex ρ'):ex = .normal/\At X C0 w0 pt' ρ' a w:=by
 obtain⟨kn,h1,h2,h3⟩:=h
 obtain⟨e1,e2,kn',e3,e4⟩:=zh6 hr h1 (fun o ho=>by have:=hE o ho;omega) h2 hb
 exact⟨e1,kn',e3,e4,by omega⟩
theorem At.lend{pt:Pt}{ρ:Env}{a:Act}{w:World}(h:At X C0 w0 pt ρ a w)(o:Nat):At X C0 w0 (lendPt o pt) ρ a w:=by
 obtain⟨kn,⟨⟨C,hr,hk⟩,s2,s3,s4⟩,h2,h3⟩:=h
 obtain⟨C',hr',hC⟩:=hr.lend o
 have hg:∀t,(lendG pt.1 o).get t=pt.1.get t:=by
  intro t
  unfold lendG
  split<;>rfl
 exact⟨kn,⟨⟨C',hr',fun q hq hkq=>by
  obtain⟨e1,e2,e3⟩:=hC q
  obtain⟨f1,f2,f3⟩:=hk q hq hkq
  exact⟨e1.trans f1,e2.trans f2,e3.trans f3⟩⟩,s2,fun t ht=>s3 t (by rwa[<- hg t]),s4⟩,h2,h3⟩
theorem zaW {c:Code}{blk:List (Nat × Join)}{a:Act}{w:World}{f:Hint->Pt->Option (PI × Option Pt)}(hE:∀o∈X.E,o<X.no0)
 (hf:∀{h:Hint} {pt:Pt} {p:PI} {r:Option Pt} {ρ ρ':Env} {ex:Ex},f h pt=some (p,r)->BigC (CallOk P X.tab X.sigs) p ρ ex ρ'->At X C0 w0 pt ρ a w->c.wp P (CPost P X C0 w0 fn blk r ex ρ') a w)
 {h:Hint} {pt:Pt} {p:PI} {r:Option Pt} {ρ ρ':Env} {ex:Ex} (hc:ppW X f h pt=some (p,r)) (hb:BigC (CallOk P X.tab X.sigs) p ρ ex ρ') (hat:At X C0 w0 pt ρ a w):c.wp P (CPost P X C0 w0 fn blk r ex ρ') a w:=by
 induction h generalizing pt with
 |lend o h ih=>exact ih hc (hat.lend o)
 |_=>?_
 all_goals unfold ppW at hc
 all_goals try exact hf hc hb hat
 · rename_i pre h post _
   split at hc
   case h_2=>cases hc
   rename_i s1 pt1 h1
   split at hc
   · rename_i p0 pt2 h2
     split at hc
     case h_2=>cases hc
     rename_i s2 pt3 h3
     cases hc
     cases hb with
     | seq hb1 hb2 =>
       have hat1:=(hat.pp hE h1 hb1).2
       cases hb2 with
       | seq hb3 hb4 =>
         refine wp_mono (hf h2 hb3 hat1) fun e a w hq=>?_
         obtain⟨q1,pt',q2,q3⟩:=hq
         cases q2
         obtain⟨e1,e2⟩:=q3.pp hE h3 hb4
         subst e1
         exact⟨q1,_,rfl,e2⟩
       | seqOut hb3 hne =>
         refine wp_mono (hf h2 hb3 hat1) fun e a w hq=>?_
         cases ex with
         |normal=>exact absurd rfl hne
         |exit id=>exact hq
         |ret outs=>exact hq
     |seqOut hb1 hne=>exact absurd (hat.pp hE h1 hb1).1 hne
   · rename_i p0 h2
     cases hc
     cases hb with
     |seq hb1 hb2=>exact hf h2 hb2 (hat.pp hE h1 hb1).2
     |seqOut hb1 hne=>exact absurd (hat.pp hE h1 hb1).1 hne
   ·cases hc
 ·cases hc;exact (zhr hb).elim
theorem zcf (hT : TabOk P X.tab) (hm : P.follows .mixedOrders = true) (hres : X.res = fn.results.toList) (hE : ∀ o ∈ X.E, o < X.no0) : ∀ (c : Code) {h : Hint} {blk : List (Nat × Join)} {pt : Pt} {p : PI} {r : Option Pt} {ρ ρ' : Env} {ex : Ex} {a : Act} {w : World},
 anCode X c h blk pt=some (p,r)->BigC (CallOk P X.tab X.sigs) p ρ ex ρ'->At X C0 w0 pt ρ a w->c.wp P (CPost P X C0 w0 fn blk r ex ρ') a w:=by
 intro c
 induction c with
 | skip =>
   intro h blk pt p r ρ ρ' ex a w hc hb hat
   simp only[anCode]at hc
   refine zaW hE (fun {h pt p r ρ ρ' ex} hc hb hat=>?_) hc hb hat
   cases hc
   cases hb
   exact wp_skip ⟨rfl,pt,rfl,hat⟩
 | region id ops draw =>
   intro h blk pt p r ρ ρ' ex a w hc hb hat
   simp only[anCode]at hc
   refine zaW hE (fun {h pt p r ρ ρ' ex} hc hb hat=>?_) hc hb hat
   obtain⟨Γ,nx,no⟩:=pt
   simp only[anCode]at hc
   split at hc
   case h_2=>cases hc
   rename_i sis pt' hreg
   cases hc
   obtain⟨Γ',nx',no'⟩:=pt'
   obtain⟨kn,h1,h2,h3⟩:=hat
   have key:=fun Q hQ=>zh2 (Q:=Q) (id:=id) hT hm hreg h1 (fun o ho=>by have:=hE o ho;have h3':X.no0<=no:=h3;omega) h2 hb hQ
   obtain⟨rfl,hnx,hno,_⟩:=key (fun _ _ _=>True) (fun _ _ _ _ _=>trivial)
   exact (key _ fun a' w' kn' q1 q2=>⟨rfl,(Γ',nx',no'),rfl,kn',q1,q2,Nat.le_trans h3 hno⟩).2.2.2
 | seq c1 c2 ih1 ih2 =>
   intro h blk pt p r ρ ρ' ex a w hc hb hat
   simp only[anCode]at hc
   refine zaW hE (fun {h pt p r ρ ρ' ex} hc hb hat=>?_) hc hb hat
   cases h<;>try (dsimp only at hc;cases hc)
   rename_i ha hb'
   dsimp only at hc
   split at hc
   · rename_i pa h1
     cases hc
     refine wp_seq (wp_mono (ih1 h1 hb hat) fun e a w hq=>?_)
     cases ex with
     |normal=>obtain⟨_,_,h2,_⟩:=hq;cases h2
     |exit id=>obtain⟨rfl,h2⟩:=hq;exact⟨rfl,h2⟩
     |ret outs=>obtain⟨rfl,h2⟩:=hq;exact⟨rfl,h2⟩
   · rename_i pa pt1 h1
     split at hc
     case h_2=>cases hc
     rename_i pb r2 h2
     cases hc
     cases hb with
     | seq hb1 hb2 =>
       refine wp_seq (wp_mono (ih1 h1 hb1 hat) fun e a w hq=>?_)
       obtain⟨rfl,pt',q1,q2⟩:=hq
       cases q1
       exact ih2 h2 hb2 q2
     | seqOut hb1 hne =>
       refine wp_seq (wp_mono (ih1 h1 hb1 hat) fun e a w hq=>?_)
       cases ex with
       |normal=>exact absurd rfl hne
       |exit id=>obtain⟨rfl,h2⟩:=hq;exact⟨rfl,h2⟩
       |ret outs=>obtain⟨rfl,h2⟩:=hq;exact⟨rfl,h2⟩
   ·cases hc
 | cond cnd c1 c2 ih1 ih2 =>
   intro h blk pt p r ρ ρ' ex a w hc hb hat
   simp only[anCode]at hc
   refine zaW hE (fun {h pt p r ρ ρ' ex} hc hb hat=>?_) hc hb hat
   cases h<;>try (dsimp only at hc;cases hc)
   rename_i Jn ha hb'
   dsimp only at hc
   have hcnd:∀e,condE pt.1 cnd=some e->∃b,den ρ e = .bool b/\a.eval cnd = .bool b:=by
    intro e he
    unfold condE at he
    split at he
    · rename_i e' ho
      cases he
      obtain⟨kn,⟨⟨C,hrel,_⟩,_⟩,_⟩:=hat
      obtain⟨⟨b,h1,h2⟩,_⟩:=zab (ds:=a.defers) hrel (G:=[]) trivial ho
      exact⟨b,h1,h2⟩
    ·cases he
   split at hc
   · rename_i e pa pb rb he h1 h2
     cases hc
     obtain⟨b,hb1,hb2⟩:=hcnd e he
     cases hb with
     | yes he' hb' =>
       rw[hb1]at he';cases he'
       exact wp_cond_true hb2 (wp_mono (ih1 h1 hb' hat) fun e a w hq=>hq.lift fun pt h=>by cases h)
     | no he' hb' =>
       rw[hb1]at he';cases he'
       exact wp_cond_false hb2 (ih2 h2 hb' hat)
   · rename_i e pa ra pb he h1 h2
     cases hc
     obtain⟨b,hb1,hb2⟩:=hcnd e he
     cases hb with
     | yes he' hb' =>
       rw[hb1]at he';cases he'
       exact wp_cond_true hb2 (ih1 h1 hb' hat)
     | no he' hb' =>
       rw[hb1]at he';cases he'
       exact wp_cond_false hb2 (wp_mono (ih2 h2 hb' hat) fun e a w hq=>hq.lift fun pt h=>by cases h)
   · rename_i e pa ra pb rb he h1 h2
     split at hc
     case h_2=>cases hc
     rename_i Jn
     split at hc
     case h_2=>cases hc
     rename_i pa' pb' t1 t2
     cases hc
     obtain⟨b,hb1,hb2⟩:=hcnd e he
     cases hb with
     | yes he' hb' =>
       rw[hb1]at he';cases he'
       exact wp_cond_true hb2 (zcQ hT t1 hb' fun ex1 ρ1 hh=>ih1 h1 hh hat)
     | no he' hb' =>
       rw[hb1]at he';cases he'
       exact wp_cond_false hb2 (zcQ hT t2 hb' fun ex1 ρ1 hh=>ih2 h2 hh hat)
   ·cases hc
 | block id c ih =>
   intro h blk pt p r ρ ρ' ex a w hc hb hat
   simp only[anCode]at hc
   refine zaW hE (fun {h pt p r ρ ρ' ex} hc hb hat=>?_) hc hb hat
   cases h<;>try (dsimp only at hc;cases hc)
   case blockN ha =>
    dsimp only at hc
    split at hc
    case h_2=>cases hc
    rename_i pa h1
    cases hc
    refine wp_block ?_
    cases hb with
    | block hb' =>
      refine wp_mono (ih h1 hb' hat) fun e a w hq=>?_
      obtain⟨_,pt,h2,_⟩:=hq;cases h2
    | blockIn hb' =>
      refine wp_mono (ih h1 hb' hat) fun e a w hq=>?_
      obtain⟨_,Jx,h2,_⟩:=hq
      rw[zaT]at h2;cases h2
    | blockOut hb' hne hni =>
      refine wp_mono (ih h1 hb' hat) fun e a w hq=>?_
      cases ex with
      |normal=>exact absurd rfl hne
      | exit id' =>
        obtain⟨rfl,Jx,h2,h3⟩:=hq
        have hid:id≠id':=fun e=>hni (by rw[e])
        rw[zaX hid]at h2
        show Exit.inBlock id _ (.exit id') a w
        simp only[Exit.inBlock,if_neg (Ne.symm hid)]
        exact⟨rfl,Jx,h2,h3⟩
      | ret outs =>
        obtain⟨rfl,h2⟩:=hq
        exact⟨rfl,h2⟩
   rename_i Jn ha
   dsimp only at hc
   split at hc
   case h_2=>cases hc
   rename_i pa ra h1
   split at hc
   case h_2=>cases hc
   rename_i p' t1
   cases hc
   have hsub:∀ex1 ρ1,BigC (CallOk P X.tab X.sigs) p' ρ ex1 ρ1->c.wp P (CPost P X C0 w0 fn ((id,Jn)::blk) (some Jn.pt) ex1 ρ1) a w :=
    fun ex1 ρ1 hh=>zcQ hT t1 hh fun ex2 ρ2 hh2=>ih h1 hh2 hat
   refine wp_block ?_
   cases hb with
   | block hb' =>
     refine wp_mono (hsub _ _ hb') fun e a w hq=>?_
     obtain⟨rfl,h2⟩:=hq
     exact⟨rfl,h2⟩
   | blockIn hb' =>
     refine wp_mono (hsub _ _ hb') fun e a w hq=>?_
     obtain⟨rfl,Jx,h2,h3⟩:=hq
     rw[zag]at h2;cases h2
     show Exit.inBlock id _ (.exit id) a w
     simp only[Exit.inBlock,if_true]
     exact⟨rfl,_,rfl,h3⟩
   | blockOut hb' hne hni =>
     refine wp_mono (hsub _ _ hb') fun e a w hq=>?_
     cases ex with
     |normal=>exact absurd rfl hne
     | exit id' =>
       obtain⟨rfl,Jx,h2,h3⟩:=hq
       have hid:id≠id':=fun e=>hni (by rw[e])
       rw[zaj hid]at h2
       show Exit.inBlock id _ (.exit id') a w
       simp only[Exit.inBlock,if_neg (Ne.symm hid)]
       exact⟨rfl,Jx,h2,h3⟩
     | ret outs =>
       obtain⟨rfl,h2⟩:=hq
       exact⟨rfl,h2⟩
 | loop c ih =>
   intro h blk pt p r ρ ρ' ex a w hc hb hat
   simp only[anCode]at hc
   refine zaW hE (fun {h pt p r ρ ρ' ex} hc hb hat=>?_) hc hb hat
   cases h<;>try (dsimp only at hc;cases hc)
   rename_i Jn ha
   dsimp only at hc
   split at hc
   case h_2=>cases hc
   rename_i es pa ra hes h1
   split at hc
   case isFalse=>cases hc
   rename_i hno
   have hno:X.no0<=Jn.no:=Nat.le_of_ble_eq_true hno
   split at hc
   case h_2=>cases hc
   rename_i p' t1
   cases hc
   have hsub:∀ρ ex1 ρ1 a w,At X C0 w0 Jn.pt ρ a w->BigC (CallOk P X.tab X.sigs) p' ρ ex1 ρ1->c.wp P (CPost P X C0 w0 fn blk (some Jn.pt) ex1 ρ1) a w :=
    fun ρ ex1 ρ1 a w hat hh=>zcQ hT t1 hh fun ex2 ρ2 hh2=>ih h1 hh2 hat
   have hloop:∀{q:PI} {ρ:Env} {ex:Ex} {ρ':Env},BigC (CallOk P X.tab X.sigs) q ρ ex ρ'->q = .loop p'->∀a w,At X C0 w0 Jn.pt ρ a w->LoopW P c (CPost P X C0 w0 fn blk none ex ρ') a w:=by
    intro q ρ ex ρ' hq
    induction hq with
    | loop hb1 _ _ ih2 =>
      intro e a w hat
      cases e
      refine zf8 (wp_mono (hsub _ _ _ a w hat hb1) fun e a w hq=>?_)
      obtain⟨rfl,pt',q1,q2⟩:=hq
      cases q1
      exact ih2 rfl a w q2
    | @loopOut a' ρ ex' ρ1 hb1 hne _ =>
      intro e a w hat
      cases e
      refine zf8 (wp_mono (hsub _ _ _ a w hat hb1) fun e a w hq=>?_)
      cases ex' with
      |normal=>exact absurd rfl hne
      |exit id=>obtain⟨rfl,h2⟩:=hq;exact⟨rfl,h2⟩
      |ret outs=>obtain⟨rfl,h2⟩:=hq;exact⟨rfl,h2⟩
    |_=>intro e;cases e
   obtain⟨Γ,nx,no⟩:=pt
   cases hb with
   | seq hb1 hb2 =>
     obtain⟨_,rfl⟩:=zcL hb1
     exact zk1 (hloop hb2 rfl a w (hat.coe hT hes hno))
   | seqOut hb1 hne =>
     obtain⟨rfl,_⟩:=zcL hb1
     exact absurd rfl hne
 | exit id =>
   intro h blk pt p r ρ ρ' ex a w hc hb hat
   simp only[anCode]at hc
   refine zaW hE (fun {h pt p r ρ ρ' ex} hc hb hat=>?_) hc hb hat
   split at hc
   case h_2=>cases hc
   rename_i Jn hJ
   split at hc
   case isFalse=>cases hc
   rename_i hno
   have hno:X.no0<=Jn.no:=Nat.le_of_ble_eq_true hno
   split at hc
   case h_2=>cases hc
   rename_i es hes
   cases hc
   obtain⟨Γ,nx,no⟩:=pt
   cases hb with
   | seq hb1 hb2 =>
     obtain⟨_,rfl⟩:=zcL hb1
     cases hb2
     exact wp_exit ⟨rfl,Jn,hJ,hat.coe hT hes hno⟩
   | seqOut hb1 hne =>
     obtain⟨rfl,_⟩:=zcL hb1
     exact absurd rfl hne
 | ret =>
   intro h blk pt p r ρ ρ' ex a w hc hb hat
   simp only[anCode]at hc
   refine zaW hE (fun {h pt p r ρ ρ' ex} hc hb hat=>?_) hc hb hat
   split at hc
   case h_2=>cases hc
   rename_i es hes
   cases hc
   cases hb
   obtain⟨kn,h1,h2,h3⟩:=hat
   rw[hres]at hes
   obtain⟨v,C',v1,v2⟩:=zep hT h1 hes
   exact wp_ret ⟨rfl,h1.defers,v,C',v1,v2⟩
 |rangeFunc=>intro h blk pt p r ρ ρ' ex a w hc;simp only[anCode]at hc;cases hc
 |scope=>intro h blk pt p r ρ ρ' ex a w hc;simp only[anCode]at hc;cases hc
 |label=>intro h blk pt p r ρ ρ' ex a w hc;simp only[anCode]at hc;cases hc
 |goto=>intro h blk pt p r ρ ρ' ex a w hc;simp only[anCode]at hc;cases hc
 |refuse=>intro h blk pt p r ρ ρ' ex a w hc;simp only[anCode]at hc;cases hc
def inTm:List S1->Nat->List (Nat × (Grd × SV))
 |[],_=>[]
 |x::l,i=>(i,([],.s x))::inTm l (i+1)
theorem zeH:∀(l:List S1) (k t:Nat) {y:Grd × SV},look t (inTm l k)=some y->k<=t/\∃x,l[t-k]? = some x/\y=([],.s x)
 |[],_,_,_,h=>by simp[inTm,look]at h
 | x :: l, k, t, y, h => by
   simp only[inTm]at h
   by_cases e:k=t
   · subst e;rw[zag]at h;cases h
     exact⟨Nat.le_refl _,x,by simp,rfl⟩
   · rw[zaj e]at h
     obtain⟨h1,x',h2,h3⟩:=zeH l (k+1) t h
     exact⟨by omega,x',by rw[show t-k=(t-(k+1))+1 by omega];simpa using h2,h3⟩
def anFn (X : AX) (c : Code) (h : Hint) : Option PI :=
 if X.S.obs.all (fun x => verChk X.S.nin x.2 && Nat.blt x.1 X.no0) && Nat.ble X.S.ins.length X.nt then
  match anCode X c h [] (⟨inTm X.S.ins 0,X.S.obs.map fun p=>(p.1,([],p.2))⟩,X.S.nin,X.no0) with
  |some (p,none)=>some p
  | some (p, some (Γ, _, _)) => match anRet X.tab X.S Γ X.res with
    |some es=>some (.seq p (.ret es))
    |none=>none
  |none=>none
 else none
theorem ziL (hT:TabOk P X.tab)(hm:P.follows .mixedOrders=true){c:Code}{h:Hint}{p:PI}(hf:P.funcs[X.S.f]? = some fn)(hbody:fn.body=some c)(hnt:fn.ntmps=X.nt)(hres:fn.results.toList=X.res)
 (ha:anFn X c h=some p) {ds outs:List T} {ρ1:Env} (hb:BigC (CallOk P X.tab X.sigs) p (envOf ds) (.ret outs) ρ1):Contract P X.tab X.S ds outs:=by
 intro args w C he
 unfold anFn at ha
 split at ha
 case isFalse=>cases ha
 rename_i hc
 simp only[Bool.and_eq_true,List.all_eq_true]at hc
 obtain⟨hobs,hnt2⟩:=hc
 have hnt2:=Nat.le_of_ble_eq_true hnt2
 have hE:∀o∈X.E,o<X.no0:=by
  intro o ho
  obtain⟨x,hx1,hx2⟩:=List.mem_map.1 ho
  rw[<- hx2];exact Nat.le_of_ble_eq_true (hobs x hx1).2
 refine calls_of_wp hf hbody ?_
 have hob:∀o g ob,(Gam.mk (inTm X.S.ins 0) (X.S.obs.map fun p=>(p.1,(([]:Grd),p.2)))).obj o=some (g,ob)->g = []/\look o X.S.obs=some ob:=by
  intro o g ob ho
  have:look o (X.S.obs.map fun p=>(p.1,(([]:Grd),p.2)))=(look o X.S.obs).map fun x=>(([]:Grd),x):=zbR (fun x:Obj=>(([]:Grd),x)) o X.S.obs
  unfold Gam.obj at ho
  rw[this]at ho
  cases hx:look o X.S.obs with
  |none=>rw[hx]at ho;cases ho
  |some y=>rw[hx]at ho;cases ho;exact⟨rfl,rfl⟩
 have hrel:Rel X.tab (Gam.mk (inTm X.S.ins 0) (X.S.obs.map fun p=>(p.1,(([]:Grd),p.2)))) (envOf ds) (args++Array.replicate (fn.ntmps-args.size) undef) w C ⟨kIn X.S.obs,fun x=>x<X.S.nin⟩ (WrOf X.S.obs C) w:={
  tms:=fun t g sv ht=>by
   obtain⟨_,x,h1,h2⟩:=zeH _ 0 t ht
   cases h2
   refine⟨fun _=>?_,fun hn=>absurd trivial hn⟩
   obtain⟨v,h3,h4⟩:=he.arg t x (by simpa using h1)
   have hlt:t<args.size:=(Array.getElem?_eq_some_iff.1 h3).1
   have:(args++Array.replicate (fn.ntmps-args.size) undef).getD t undef=v:=by
    rw[Array.getD_eq_getD_getElem?,Array.getElem?_append_left hlt,h3];rfl
   rw[this];exact h4
  obs:=fun o g ob ho=>by
   obtain⟨rfl,h1⟩:=hob o g ob ho
   obtain⟨q1,q2⟩:=he.ob o ob h1
   refine⟨⟨ob,h1⟩,?_,fun _=>q2.congrObj fun par pd i j et d hh=>by rw[hh]at q1;cases q1⟩
   have hv:=(hobs _ (zam h1)).1
   cases ob with
   | row dp et d => cases dp with
     |false=>trivial
     | true =>
       unfold verChk at hv
       split at hv
       ·rename_i heq;cases heq;exact⟨_,rfl,Nat.le_of_ble_eq_true hv⟩
       ·cases hv
       ·rename_i heq;cases heq
       ·rename_i heq;cases heq
       ·cases hv
       ·rename_i heq;cases heq
   |view=>cases q1
   |box=>trivial
   |map=>trivial
  dis:=fun o o' g g' ob ob' ho ho' _ _ hne hown _=>he.dis o o' ob ob' (hob o g ob ho).2 (hob o' g' ob' ho').2 hne hown
  own:=fun o g ob ho _ hown b x hf=>.inl ⟨o,ob,(hob o g ob ho).2,hown,hf⟩
  frm:=Frame.refl _ _ }
 have hat : At X C w (Gam.mk (inTm X.S.ins 0) (X.S.obs.map fun p => (p.1, (([] : Grd), p.2))), X.S.nin, X.no0) (envOf ds) ⟨args ++ Array.replicate (fn.ntmps - args.size) undef, []⟩ w := by
  refine⟨_,⟨⟨C,hrel,fun o _ _=>⟨rfl,rfl,rfl⟩⟩,?_,fun t ht=>?_,rfl⟩,⟨fun o ho=>?_,fun x hx=>hx⟩,Nat.le_refl _⟩
  · simp only[Array.size_append,Array.size_replicate]
    have:=he.size;omega
  · cases hx:(Gam.mk (inTm X.S.ins 0) (X.S.obs.map fun p=>(p.1,(([]:Grd),p.2)))).get t with
    |none=>exact absurd hx ht
    | some y =>
      obtain⟨_,x,h1,_⟩:=zeH _ 0 t hx
      have:=List.getD_some_lt h1
      omega
  · obtain⟨ob,ho⟩:=ho
    exact hE o (List.mem_map.2 ⟨_,zam ho,rfl⟩)
 split at ha
 · rename_i p' hcode
   cases ha
   refine wp_mono (zcf (fn:=fn) hT hm hres.symm hE c hcode hb hat) fun e a w' hq=>?_
   obtain⟨rfl,h1,v,C',h2,h3⟩:=hq
   exact⟨h1,v,h2,v,C',rfl,h3⟩
 · rename_i p' Γ nx no hcode
   split at ha
   case h_2=>cases ha
   rename_i es hes
   cases ha
   cases hb with
   | seq hb1 hb2 =>
     cases hb2
     refine wp_mono (zcf (fn:=fn) hT hm hres.symm hE c hcode hb1 hat) fun e a w' hq=>?_
     obtain⟨rfl,pt,h1,kn,h2,h3,h4⟩:=hq
     cases h1
     rw[<- hres]at hes
     obtain⟨v,C',h5,h6⟩:=zep hT h2 hes
     exact⟨h2.defers,v,h5,v,C',rfl,h6⟩
   | seqOut hb1 hne =>
     refine wp_mono (zcf (fn:=fn) hT hm hres.symm hE c hcode hb1 hat) fun e a w' hq=>?_
     obtain⟨rfl,h1,v,C',h2,h3⟩:=hq
     exact⟨h1,v,h2,v,C',rfl,h3⟩
 ·cases ha
end
end Gp
namespace Gp
open Go
def anF (tab:Tab)(sigs:List Sig)(S:Sig)(no0:Nat)(h:Hint)(fn:Func):Option PI:=match fn.body with
 |some c=>if fn.name == "runtime.NumGoroutine" then none else anFn ⟨tab,sigs,fn.ntmps,S,fn.results.toList,no0⟩ c h
 |none=>none
def Inst (P:Program)(tab:Tab)(sigs:List Sig)(i:Nat)(p:PI):Prop :=
 ∀ds outs ρ1,BigC (CallOk P tab sigs) p (envOf ds) (.ret outs) ρ1->CallOk P tab sigs i ds outs
def callsLtS (i:Nat):List (Grd × SI)->Bool
 |[]=>true
 |(_,.call j _ _ _)::r=>Nat.blt j i&&callsLtS i r
 |_::r=>callsLtS i r
def callsLt (i:Nat):PI->Bool
 |.sis l=>callsLtS i l
 |.seq a b=>callsLt i a&&callsLt i b
 |.cond _ a b=>callsLt i a&&callsLt i b
 |.block _ a=>callsLt i a
 |.loop a=>callsLt i a
 |_=>true
theorem BigC.lower{J J':Nat->List T->List T->Prop}{i:Nat}(hJ:∀j ds outs,j<i->J j ds outs->J' j ds outs){p:PI}{ρ:Env}{ex:Ex}{ρ':Env}(h:BigC J p ρ ex ρ'):callsLt i p=true->BigC J' p ρ ex ρ':=by
 induction h with
 |skip=>exact fun _=>.skip
 |nil=>exact fun _=>.nil
 | off h _ ih =>
   intro hc
   refine .off h (ih ?_)
   rename_i s l ρ e ρ' _
   cases s<;>simp only[callsLt,callsLtS,Bool.and_eq_true]at hc ⊢<;>first|exact hc|exact hc.2
 |set h _ ih=>exact fun hc=>.set h (ih hc)
 |mov h _ ih=>exact fun hc=>.mov h (ih hc)
 |chk h h2 _ ih=>exact fun hc=>.chk h h2 (ih hc)
 | call h hI hn _ ih =>
   intro hc
   simp only[callsLt,callsLtS,Bool.and_eq_true]at hc
   exact .call h (hJ _ _ _ (by have:=hc.1;exact Nat.le_of_ble_eq_true this) hI) hn (ih hc.2)
 | seq _ _ ih1 ih2 =>
   intro hc
   simp only[callsLt,Bool.and_eq_true]at hc
   exact .seq (ih1 hc.1) (ih2 hc.2)
 | seqOut _ hn ih =>
   intro hc
   simp only[callsLt,Bool.and_eq_true]at hc
   exact .seqOut (ih hc.1) hn
 | yes he _ ih =>
   intro hc
   simp only[callsLt,Bool.and_eq_true]at hc
   exact .yes he (ih hc.1)
 | no he _ ih =>
   intro hc
   simp only[callsLt,Bool.and_eq_true]at hc
   exact .no he (ih hc.2)
 |block _ ih=>exact fun hc=>.block (ih hc)
 |blockIn _ ih=>exact fun hc=>.blockIn (ih hc)
 |blockOut _ h1 h2 ih=>exact fun hc=>.blockOut (ih hc) h1 h2
 |loop _ _ ih1 ih2=>exact fun hc=>.loop (ih1 hc) (ih2 hc)
 |loopOut _ hn ih=>exact fun hc=>.loopOut (ih hc) hn
 |exit=>exact fun _=>.exit
 |ret=>exact fun _=>.ret
theorem zad {P:Program}{tab:Tab}{sigs:List Sig}{i:Nat}{p:PI}{S:Sig}{fn:Func}{no0:Nat}{h:Hint}(hT:TabOk P tab)(hm:P.follows .mixedOrders=true)
 (hf:P.funcs[S.f]? = some fn) (hi:sigs[i]? = some S) (ha:anF tab (sigs.take i) S no0 h fn=some p) (hlt:callsLt i p=true):Inst P tab sigs i p:=by
 intro ds outs ρ1 hb
 replace hb:BigC (CallOk P tab (sigs.take i)) p (envOf ds) (.ret outs) ρ1:=hb.lower (fun j ds outs hj=>fun⟨S',h1,h2⟩=>⟨S',by rw[List.getElem?_take_of_lt hj];exact h1,h2⟩) hlt
 unfold anF at ha
 split at ha
 case h_2=>cases ha
 rename_i c hc
 split at ha
 case isTrue=>cases ha
 rename_i hn
 exact⟨S,hi,⟨fn,hf,by simpa using hn,by rw[hc];rfl⟩,ziL (X:=⟨tab,sigs.take i,fn.ntmps,S,fn.results.toList,no0⟩) hT hm hf hc rfl rfl ha hb⟩
def AllInst (P:Program)(tab:Tab)(sigs:List Sig):List PI->Nat->Prop
 |[],_=>True
 |p::l,i=>Inst P tab sigs i p/\AllInst P tab sigs l (i+1)
theorem AllInst.get{P:Program}{tab:Tab}{sigs:List Sig}:∀{l:List PI} {k:Nat},AllInst P tab sigs l k->∀i p,l[i]? = some p->Inst P tab sigs (k+i) p
 |[],_,_,i,p,h=>by simp at h
 | q :: l, k, ⟨h1, h2⟩, i, p, h => by
   cases i with
   |zero=>simp at h;subst h;exact h1
   | succ i =>
     have:=h2.get i p (by simpa using h)
     rw[show k+(i+1)=k+1+i by omega];exact this
def sysOf (ps:List PI):Nat->Option Body:=fun i=>(ps[i]?).map .code
theorem zkv {P:Program}{tab:Tab}{sigs:List Sig}{ps:List PI}(hall:AllInst P tab sigs ps 0){i:Nat}{ds outs:List T}(h:CallI (sysOf ps) i ds outs):CallOk P tab sigs i ds outs:=by
 have hc:∀i p ds outs ρ₁,sysOf ps i=some (.code p)->BigC (CallOk P tab sigs) p (envOf ds) (.ret outs) ρ₁->CallOk P tab sigs i ds outs:=by
  intro i p ds outs ρ1 hp hb
  unfold sysOf at hp
  cases hx:ps[i]? with
  |none=>rw[hx]at hp;cases hp
  | some q =>
    rw[hx]at hp;cases hp
    have:=hall.get i p hx
    rw[Nat.zero_add]at this
    exact this ds outs ρ1 hb
 have hp:∀i R ds outs,sysOf ps i=some (.prim R)->R ds outs->CallOk P tab sigs i ds outs:=by
  intro i R ds outs hp
  unfold sysOf at hp
  cases hx:ps[i]? with
  |none=>rw[hx]at hp;cases hp
  |some q=>rw[hx]at hp;cases hp
 rcases h with⟨p,ρ1,h1,h2⟩|⟨R,h1,h2⟩
 ·exact hc i p ds outs ρ1 h1 (zho hc hp h2)
 ·exact hp i R ds outs h1 h2
end Gp
