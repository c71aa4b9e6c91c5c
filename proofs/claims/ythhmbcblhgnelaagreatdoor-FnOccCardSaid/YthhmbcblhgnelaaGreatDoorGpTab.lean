import Derived.Orders
import Derived.Laws.World
import Derived.Laws.Rows
import Derived.Laws.Sem
set_option linter.unusedVariables false
set_option linter.unusedSimpArgs false
namespace Gp
open Go
inductive T where
 |hole
 |int (n:Int)
 |bool (b:Bool)
 |str (s:ByteArray)
 |list (l:List T)
 deriving Inhabited
namespace T
def toInt:T->Int|.int n=>n|_=>0
def toList:T->List T|.list l=>l|_=>[]
def isList:T->T|.list _=>.bool true|_=>.bool false
def arI (o:BinOp)(k:IntKind)(x y:Int):T :=
 match o with
 |.add=>.int (k.wrap (x+y))
 |.sub=>.int (k.wrap (x-y))
 |.mul=>.int (k.wrap (x*y))
 |.quo=>.int (k.wrap (x.tdiv y))
 |.rem=>.int (x.tmod y)
 |.and=>.int (k.wrap (BitVec.ofInt k.bits x &&& BitVec.ofInt k.bits y).toNat)
 |.or=>.int (k.wrap (BitVec.ofInt k.bits x ||| BitVec.ofInt k.bits y).toNat)
 |.xor=>.int (k.wrap (BitVec.ofInt k.bits x ^^^ BitVec.ofInt k.bits y).toNat)
 |.andNot=>.int (k.wrap (BitVec.ofInt k.bits x &&& ~~~ BitVec.ofInt k.bits y).toNat)
 |.shl=>.int (k.wrap (x*2^(min y.toNat k.bits)))
 |.shr=>.int (x.fdiv (2^(min y.toNat k.bits)))
 |_=>.hole
def ar (o:BinOp)(k:IntKind):T->T->T
 |.int x,.int y=>arI o k x y
 |_,_=>.hole
def cmpI (o:BinOp)(x y:Int):T :=
 match o with
 |.eql=>.bool (x==y)
 |.neq=>.bool (x != y)
 |.lss=>.bool (x<y)
 |.leq=>.bool (x<=y)
 |.gtr=>.bool (x>y)
 |.geq=>.bool (x>=y)
 |_=>.hole
def cmp (o:BinOp):T->T->T
 |.int x,.int y=>cmpI o x y
 |_,_=>.hole
def scmpS (o:BinOp)(x y:ByteArray):T :=
 match o with
 |.eql=>.bool (x.toList==y.toList)
 |.neq=>.bool !(x.toList==y.toList)
 |.lss=>.bool (Op.bytesLess x.toList y.toList)
 |.leq=>.bool (Op.bytesLess x.toList y.toList||x.toList==y.toList)
 |.gtr=>.bool !(Op.bytesLess x.toList y.toList||x.toList==y.toList)
 |.geq=>.bool !(Op.bytesLess x.toList y.toList)
 |_=>.hole
def scmp (o:BinOp):T->T->T
 |.str x,.str y=>scmpS o x y
 |_,_=>.hole
def bcmp (o:BinOp):T->T->T
 | .bool x, .bool y => match o with
   |.eql=>.bool (x==y)
   |.neq=>.bool (x != y)
   |_=>.hole
 |_,_=>.hole
def plus:T->T->T|.int x,.int y=>.int (x+y)|_,_=>.hole
def minus:T->T->T|.int x,.int y=>.int (x-y)|_,_=>.hole
def band:T->T->T|.bool x,.bool y=>.bool (x&&y)|_,_=>.hole
def bor:T->T->T|.bool x,.bool y=>.bool (x||y)|_,_=>.hole
def not:T->T|.bool x=>.bool !x|_=>.hole
def conv (k:IntKind):T->T|.int x=>.int (k.wrap x)|_=>.hole
def neg (k:IntKind):T->T|.int x=>.int (k.wrap (0-x))|_=>.hole
def ite (c a b:T):T:=match c with|.bool true=>a|.bool false=>b|_=>.hole
def len:T->T|.list l=>.int l.length|_=>.hole
def slen:T->T|.str s=>.int s.size|_=>.hole
def idx:T->T->T
 |.list l,.int n=>if n<0 then .hole else l.getD n.toNat .hole
 |_,_=>.hole
def cell (j:Nat):T->T|.list l=>l.getD j .hole|_=>.hole
def setI:T->T->T->T
 |.list l,.int n,v=>if n<0 then .hole else .list (l.set n.toNat v)
 |_,_,_=>.hole
def setC (j:Nat):T->T->T
 |.list l,v=>.list (l.set j v)
 |_,_=>.hole
def cat:T->T->T|.list a,.list b=>.list (a++b)|_,_=>.hole
def cons:T->T->T|a,.list b=>.list (a::b)|_,_=>.hole
def ext:T->T->T->T
 |.list l,.int a,.int b=>.list ((l.take b.toNat).drop a.toNat)
 |_,_,_=>.hole
def scat:T->T->T|.str a,.str b=>.str (a++b)|_,_=>.hole
def sidx:T->T->T
 |.str s,.int n=>if n<0 then .hole else match s.data[n.toNat]? with|some b=>.int b.toNat|none=>.hole
 |_,_=>.hole
def sext:T->T->T->T
 |.str s,.int a,.int b=>.str (s.extract a.toNat b.toNat)
 |_,_,_=>.hole
def rep:T->T->T|.int n,v=>.list (List.replicate n.toNat v)|_,_=>.hole
def imax:T->T->T|.int x,.int y=>.int (if y>x then y else x)|_,_=>.hole
def imin:T->T->T|.int x,.int y=>.int (if y<x then y else x)|_,_=>.hole
def bytes:T->T|.str s=>.list (s.data.toList.map fun b=>.int b.toNat)|_=>.hole
def keyEq:T->T->Bool
 |.int x,.int y=>x==y
 |.bool x,.bool y=>x==y
 |.str x,.str y=>x==y
 |_,_=>false
def mfind (k:T):List T->Option T
 |[]=>none
 | x :: r => match x with
   |.list [a,v]=>if keyEq k a then some v else mfind k r
   |_=>mfind k r
def mput (k v:T):List T->List T
 |[]=>[.list [k,v]]
 | x :: r => match x with
   |.list [a,_]=>if keyEq k a then .list [k,v]::r else x::mput k v r
   |_=>x::mput k v r
def mhas:T->T->T|.list l,k=>.bool (mfind k l).isSome|_,_=>.hole
def mget:T->T->T->T|.list l,k,d=>(mfind k l).getD d|_,_,_=>.hole
def mset:T->T->T->T|.list l,k,v=>.list (mput k v l)|_,_,_=>.hole
def trimL (l cs:List UInt8):List UInt8:=((l.reverse.dropWhile (cs.contains ·)).reverse).dropWhile (cs.contains ·)
def trim:T->T->T|.str s,.str c=>.str ⟨(trimL s.data.toList c.data.toList).toArray⟩|_,_=>.hole
def cmp3L (a b:List UInt8):Int:=if Op.bytesLess a b then -1 else if a=b then 0 else 1
def cmp3:T->T->T|.str a,.str b=>.int (cmp3L a.data.toList b.data.toList)|_,_=>.hole
def asciiL (l:List UInt8):Bool:=Nat.ble 2 l.length&&(Nat.ble l.length 200&&l.all fun b=>Nat.blt b.toNat 128)
def ascii:T->T|.str c=>.bool (asciiL c.data.toList)|_=>.hole
def entKey:T->List UInt8|.list [.str s,_]=>s.data.toList|_=>[]
def isEnt:T->Bool|.list [.str s,_]=>Nat.ble s.data.toList.length 1000000|_=>false
def nodupB:List (List UInt8)->Bool|[]=>true|x::r=>!r.contains x&&nodupB r
def skeys:T->T|.list l=>.list (((l.map entKey).mergeSort fun x y=>decide (x<=y)).map fun b=>.str ⟨b.toArray⟩)|_=>.hole
def skeysOk:T->T|.list l=>.bool (Nat.ble l.length 1000000&&(l.all isEnt&&nodupB (l.map entKey)))|_=>.hole
def unbytes:T->T|.list l=>.str ⟨(l.map fun t=>UInt8.ofNat t.toInt.toNat).toArray⟩|_=>.hole
def void (m:List Bool)(t:T):T:=if m.isEmpty then .hole else match t with
 |.list cs=>.list (cs.mapIdx fun j c=>if m.getD j false then .hole else c)
 |t=>t
def punchL (m:List Bool)(l:List T)(a b:Nat):List T:=l.mapIdx fun i x=>if a<=i/\i<b then void m x else x
def punch (m:List Bool):T->T->T->T|.list l,.int a,.int b=>.list (punchL m l a.toNat b.toNat)|_,_,_=>.hole
end T
inductive U where
 |not|conv (k:IntKind)|neg (k:IntKind)|len|slen|cell (j:Nat)|bytes|unbytes|isList|ascii|skeys|skeysOk
 deriving DecidableEq,Repr
inductive B where
 |ar (o:BinOp) (k:IntKind)|cmp (o:BinOp)|scmp (o:BinOp)|bcmp (o:BinOp)|and|or
 |plus|minus|idx|setC (j:Nat)|cat|cons|scat|sidx|rep|max|min|mhas|trim|cmp3
 deriving DecidableEq,Repr
inductive Tr where
 |ite|setI|ext|sext|mget|mset|punch (m:List Bool)
 deriving DecidableEq,Repr
def U.den:U->T->T
 |.not=>T.not|.conv k=>T.conv k|.neg k=>T.neg k|.len=>T.len|.slen=>T.slen
 |.cell j=>T.cell j|.bytes=>T.bytes|.unbytes=>T.unbytes|.isList=>T.isList|.ascii=>T.ascii|.skeys=>T.skeys|.skeysOk=>T.skeysOk
def B.den:B->T->T->T
 |.ar o k=>T.ar o k|.cmp o=>T.cmp o|.scmp o=>T.scmp o|.bcmp o=>T.bcmp o|.and=>T.band|.or=>T.bor
 |.plus=>T.plus|.minus=>T.minus
 |.idx=>T.idx|.setC j=>T.setC j|.cat=>T.cat|.cons=>T.cons|.scat=>T.scat|.sidx=>T.sidx|.rep=>T.rep
 |.max=>T.imax|.min=>T.imin|.mhas=>T.mhas|.trim=>T.trim|.cmp3=>T.cmp3
def Tr.den:Tr->T->T->T->T
 |.ite=>T.ite|.setI=>T.setI|.ext=>T.ext|.sext=>T.sext|.mget=>T.mget|.mset=>T.mset|.punch m=>T.punch m
inductive Exp where
 |var (x:Nat)
 |int (n:Int)|bool (b:Bool)|str (l:List UInt8)|nil
 |un (o:U) (a:Exp)
 |bin (o:B) (a b:Exp)
 |tri (o:Tr) (a b c:Exp)
 deriving DecidableEq,Repr,Inhabited
abbrev Env:=Nat->T
def upd (ρ:Env)(x:Nat)(v:T):Env:=fun y=>if y=x then v else ρ y
def updL (ρ:Env)(x:Nat):List T->Env
 |[]=>ρ
 |v::r=>updL (upd ρ x v) (x+1) r
def den (ρ:Env):Exp->T
 |.var x=>ρ x
 |.int n=>.int n
 |.bool b=>.bool b
 |.str l=>.str ⟨l.toArray⟩
 |.nil=>.list []
 |.un o a=>o.den (den ρ a)
 |.bin o a b=>o.den (den ρ a) (den ρ b)
 |.tri o a b c=>o.den (den ρ a) (den ρ b) (den ρ c)
def Exp.bnd (n:Nat):Exp->Bool
 |.var x=>Nat.blt x n
 |.int _|.bool _|.str _|.nil=>true
 |.un _ a=>a.bnd n
 |.bin _ a b=>a.bnd n&&b.bnd n
 |.tri _ a b c=>a.bnd n&&(b.bnd n&&c.bnd n)
def Agree (n:Nat)(ρ ρ':Env):Prop:=∀x,x<n->ρ' x=ρ x
theorem Agree.refl(n:Nat)(ρ:Env):Agree n ρ ρ:=fun _ _=>rfl
theorem Agree.trans{n:Nat}{a b c:Env}(h:Agree n a b)(k:Agree n b c):Agree n a c:=fun x hx=>(k x hx).trans (h x hx)
theorem Agree.mono{n m:Nat}{a b:Env}(h:Agree n a b)(hm:m<=n):Agree m a b:=fun x hx=>h x (Nat.lt_of_lt_of_le hx hm)
def isPunch:Exp->Bool
 |.tri (.punch _) _ _ _=>true
 |_=>false
def unpunch:Exp->Exp
 |.tri (.punch _) d _ _=>d
 |d=>d
theorem zh8 {ρ:Env}{d:Exp}{rows:List T}(h:den ρ d = .list rows):∃rows',den ρ (unpunch d) = .list rows'/\rows'.length=rows.length:=by
 unfold unpunch
 split
 · rename_i m d a b
   simp only[den,Tr.den]at h
   generalize den ρ d=u at h ⊢
   generalize den ρ a=v at h
   generalize den ρ b=z at h
   cases u with
   | list l =>
     cases v with
     | int p =>
       cases z with
       | int q =>
         simp only[T.punch,T.list.injEq]at h
         exact⟨l,rfl,by rw[<- h];simp[T.punchL]⟩
       |_=>simp[T.punch]at h
     |_=>simp[T.punch]at h
   |_=>simp[T.punch]at h
 ·exact⟨rows,h,rfl⟩
theorem zai {n:Nat}{ρ ρ':Env}(h:Agree n ρ ρ'):∀e:Exp,e.bnd n=true->den ρ' e=den ρ e
 |.var x,hb=>h x (by simpa[Exp.bnd]using hb)
 |.int _,_|.bool _,_|.str _,_|.nil,_=>rfl
 |.un o a,hb=>by simp only[den];rw[zai h a hb]
 | .bin o a b, hb => by
   simp only[Exp.bnd,Bool.and_eq_true]at hb
   simp only[den];rw[zai h a hb.1,zai h b hb.2]
 | .tri o a b c, hb => by
   simp only[Exp.bnd,Bool.and_eq_true]at hb
   simp only[den];rw[zai h a hb.1,zai h b hb.2.1,zai h c hb.2.2]
theorem zbp {n x:Nat}{ρ:Env}{v:T}(h:n<=x):Agree n ρ (upd ρ x v):=fun y hy=>by
 unfold upd;rw[if_neg (by omega)]
theorem zap {n:Nat}:∀(l:List T) (x:Nat) (ρ:Env),n<=x->Agree n ρ (updL ρ x l)
 |[],_,_,_=>Agree.refl _ _
 |v::r,x,ρ,h=>(zbp h).trans (zap r (x+1) _ (by omega))
theorem zb5:∀(l:List T) (x:Nat) (ρ:Env) (i:Nat) (v:T),l[i]? = some v->updL ρ x l (x+i)=v
 |[],_,_,_,_,h=>by simp at h
 | u :: r, x, ρ, 0, v, h => by
   simp at h;subst h
   have:=zap (n:=x+1) r (x+1) (upd ρ x u) (Nat.le_refl _) x (by omega)
   simp only[updL,Nat.add_zero];rw[this];simp[upd]
 | u :: r, x, ρ, i + 1, v, h => by
   have:=zb5 r (x+1) (upd ρ x u) i v (by simpa using h)
   simp only[updL];rw[show x+(i+1)=x+1+i by omega];exact this
abbrev Grd:=List (Exp × Bool)
def holdsG (ρ:Env):Grd->Prop
 |[]=>True
 |(e,b)::r=>den ρ e = .bool b/\holdsG ρ r
inductive SI where
 |set (x:Nat) (e:Exp)
 |mov (x:Nat) (es:List Exp)
 |chk (e:Exp)
 |call (inst:Nat) (args:List Exp) (x n:Nat)
 deriving Repr,Inhabited
inductive PI where
 |skip
 |sis (l:List (Grd × SI))
 |seq (a b:PI)
 |cond (e:Exp) (a b:PI)
 |block (id:Nat) (a:PI)
 |loop (a:PI)
 |exit (id:Nat)
 |ret (es:List Exp)
 deriving Repr,Inhabited
inductive Ex where
 |normal|exit (id:Nat)|ret (outs:List T)
inductive Body where
 |code (p:PI)
 |prim (R:List T->List T->Prop)
def envOf (ds:List T):Env:=fun x=>ds.getD x .hole
inductive Big(I:Nat->Option Body):PI->Env->Ex->Env->Prop where
 |skip {ρ}:Big I .skip ρ .normal ρ
 |nil {ρ}:Big I (.sis []) ρ .normal ρ
 |off {g s l ρ e ρ'}:¬holdsG ρ g->Big I (.sis l) ρ e ρ'->Big I (.sis ((g,s)::l)) ρ e ρ'
 |set {g x e l ρ ex ρ'}:holdsG ρ g->Big I (.sis l) (upd ρ x (den ρ e)) ex ρ'->Big I (.sis ((g,.set x e)::l)) ρ ex ρ'
 |mov {g x es l ρ ex ρ'}:holdsG ρ g->Big I (.sis l) (updL ρ x (es.map (den ρ))) ex ρ'->Big I (.sis ((g,.mov x es)::l)) ρ ex ρ'
 |chk {g e l ρ ex ρ'}:holdsG ρ g->den ρ e = .bool true->Big I (.sis l) ρ ex ρ'->Big I (.sis ((g,.chk e)::l)) ρ ex ρ'
 |call {g i args x n l ρ ex ρ' p outs ρ₁}:holdsG ρ g->I i=some (.code p) ->
  Big I p (envOf (args.map (den ρ))) (.ret outs) ρ₁->outs.length=n ->
  Big I (.sis l) (updL ρ x outs) ex ρ'->Big I (.sis ((g,.call i args x n)::l)) ρ ex ρ'
 |prim {g i args x n l ρ ex ρ' R outs}:holdsG ρ g->I i=some (.prim R)->R (args.map (den ρ)) outs->outs.length=n ->
  Big I (.sis l) (updL ρ x outs) ex ρ'->Big I (.sis ((g,.call i args x n)::l)) ρ ex ρ'
 |seq {a b ρ ρ₁ ex ρ₂}:Big I a ρ .normal ρ₁->Big I b ρ₁ ex ρ₂->Big I (.seq a b) ρ ex ρ₂
 |seqOut {a b ρ ex ρ₁}:Big I a ρ ex ρ₁->ex ≠ .normal->Big I (.seq a b) ρ ex ρ₁
 |yes {e a b ρ ex ρ₁}:den ρ e = .bool true->Big I a ρ ex ρ₁->Big I (.cond e a b) ρ ex ρ₁
 |no {e a b ρ ex ρ₁}:den ρ e = .bool false->Big I b ρ ex ρ₁->Big I (.cond e a b) ρ ex ρ₁
 |block {id a ρ ρ₁}:Big I a ρ .normal ρ₁->Big I (.block id a) ρ .normal ρ₁
 |blockIn {id a ρ ρ₁}:Big I a ρ (.exit id) ρ₁->Big I (.block id a) ρ .normal ρ₁
 |blockOut {id a ρ ex ρ₁}:Big I a ρ ex ρ₁->ex ≠ .normal->ex ≠ .exit id->Big I (.block id a) ρ ex ρ₁
 |loop {a ρ ρ₁ ex ρ₂}:Big I a ρ .normal ρ₁->Big I (.loop a) ρ₁ ex ρ₂->Big I (.loop a) ρ ex ρ₂
 |loopOut {a ρ ex ρ₁}:Big I a ρ ex ρ₁->ex ≠ .normal->Big I (.loop a) ρ ex ρ₁
 |exit {id ρ}:Big I (.exit id) ρ (.exit id) ρ
 |ret {es ρ}:Big I (.ret es) ρ (.ret (es.map (den ρ))) ρ
def CallI (I:Nat->Option Body)(i:Nat)(ds outs:List T):Prop :=
 (∃p ρ₁,I i=some (.code p)/\Big I p (envOf ds) (.ret outs) ρ₁)\/(∃R,I i=some (.prim R)/\R ds outs)
end Gp
namespace Gp
open Go
inductive CK where
 |int (k:IntKind)|bool|str|sl (et:TypeId)|ptr|fnc|mp|other
 deriving DecidableEq,Repr,Inhabited
inductive TD where
 |int (k:IntKind)|bool|str|slice (e:TypeId)|array (n:Nat) (e:TypeId)|struct (fs:List (Nat × TypeId))|ptr (e:TypeId)|mp (k v:TypeId)|other
 deriving Repr,Inhabited
structure TI where
 td:TD
 size:Nat
 bytes:Nat
 agg:Bool
 cks:List CK
 eqs:Bool:=false
 eqa:Bool:=false
 deriving Repr,Inhabited
abbrev Tab:=List (Option TI)
def Tab.get (tab:Tab)(t:TypeId):Option TI:=(tab[t]?).join
abbrev CS:=Nat->Nat->Prop
def Emp:CS:=fun _ _=>False
def Disj (F G:CS):Prop:=∀b o,F b o->G b o->False
def Sub (F G:CS):Prop:=∀b o,F b o->G b o
theorem Disj.symm{F G:CS}(h:Disj F G):Disj G F:=fun b o x y=>h b o y x
theorem Disj.sub{F G F' G':CS}(h:Disj F G)(hF:Sub F' F)(hG:Sub G' G):Disj F' G':=fun b o x y=>h b o (hF b o x) (hG b o y)
theorem Sub.refl(F:CS):Sub F F:=fun _ _ h=>h
theorem Sub.trans{F G H:CS}(h:Sub F G)(k:Sub G H):Sub F H:=fun b o x=>k b o (h b o x)
def Rng (b off n:Nat):CS:=fun b' o'=>b'=b/\off<=o'/\o'<off+n
def cellAt (w:World)(b o:Nat):Option Value:=w.cell? ⟨b,o,none⟩
def frozenAt (w:World)(b o:Nat):Bool:=match w.heap[b]? with
 |some (.cells _ _ (_,hi))=>hi != 0
 |_=>false
theorem zeV {w:World}{b o:Nat}(h:frozenAt w b o=false)(x:Nat):w.frozen? ⟨b,x,none⟩=false:=by
 unfold frozenAt at h
 unfold World.frozen?
 dsimp only
 split at h
 · rename_i c e lo hi hb
   have:hi=0:=by simpa using h
   subst this
   simp[hb]
 · rename_i hn
   split
   · rename_i c e lo hi hb
     exact absurd hb (hn c e lo hi)
   ·rfl
def SameAt (w w':World)(b o:Nat):Prop:=cellAt w' b o=cellAt w b o/\frozenAt w' b o=frozenAt w b o
def SameOn (w w':World)(F:CS):Prop:=∀b o,F b o->SameAt w w' b o
theorem SameOn.refl(w:World)(F:CS):SameOn w w F:=fun _ _ _=>⟨rfl,rfl⟩
theorem SameOn.sub{w w':World}{F G:CS}(h:SameOn w w' G)(s:Sub F G):SameOn w w' F:=fun b o x=>h b o (s b o x)
theorem SameOn.trans{w w' w'':World}{F:CS}(h:SameOn w w' F)(k:SameOn w' w'' F):SameOn w w'' F :=
 fun b o x=>⟨(k b o x).1.trans (h b o x).1,(k b o x).2.trans (h b o x).2⟩
def cellT (k:Nat)(rows:List T)(i j:Nat):T:=if k=1 then rows.getD i .hole else (rows.getD i .hole).cell j
def WfRows (k:Nat)(rows:List T):Prop:=k≠1->∀i,i<rows.length->∃l,rows[i]? = some (.list l)/\l.length=k
def SameOb (w w':World)(F:CS):Prop:=SameOn w w' F/\∀b,(∀x,F b x)->w'.heap[b]? = w.heap[b]?
def Blk (r:Nat):CS:=fun b _=>b=r
def rowF (b off m n k:Nat)(Fs:Nat->Nat->CS):CS:=fun b' o'=>Rng b off (m*k) b' o'\/∃i j,i<n/\j<k/\Fs i j b' o'
inductive DRel(tab:Tab)(w:World):Bool->CK->Value->T->CS->Prop where
 |int {dp k n}:DRel tab w dp (.int k) (.int k n) (.int n) Emp
 |bool {dp b}:DRel tab w dp .bool (.bool b) (.bool b) Emp
 |str {dp s}:DRel tab w dp .str (.string s) (.str s) Emp
 |hole {dp et a n c}:DRel tab w dp (.sl et) (.slice a n c) .hole Emp
 |sl {dp:Bool} {et:TypeId} {ti:TI} {rows:List T} {a:Option Addr} {n c b off:Nat} {vs:Nat->Nat->Value} {Fs:Nat->Nat->CS} {F:CS}
  (hti:tab.get et=some ti) (hsz:ti.size=ti.cks.length) (hn:rows.length=n) (hc:n<=c) (ha:a=some ⟨b,off,none⟩\/c=0)
  (hwf:WfRows ti.size rows)
  (hcell:∀i j,i<n->j<ti.size->cellAt w b (off+i*ti.size+j)=some (vs i j))
  (hrel:∀i j ck,i<n->ti.cks[j]? = some ck->DRel tab w dp ck (vs i j) (cellT ti.size rows i j) (Fs i j))
  (hown:dp=true->∀x,x<c*ti.size->∃v,cellAt w b (off+x)=some v/\frozenAt w b (off+x)=false)
  (hdis:dp=true->∀i j i' j',i<n->j<ti.size->i'<n->j'<ti.size->(i,j)≠(i',j')->Disj (Fs i j) (Fs i' j'))
  (hdr:dp=true->∀i j,i<n->j<ti.size->Disj (Rng b off (c*ti.size)) (Fs i j))
  (hF:F=rowF b off (if dp then c else n) n ti.size Fs) :
  DRel tab w dp (.sl et) (.slice a n c) (.list rows) F
def Scal:CK->Value->T->Prop
 |.int k,v,t=>∃n,v = .int k n/\t = .int n
 |.bool,v,t=>∃b,v = .bool b/\t = .bool b
 |.str,v,t=>∃s,v = .string s/\t = .str s
 |_,_,_=>False
def MapRel (k v:CK):List MapEntry->List T->Prop
 |[],[]=>True
 |e::es,t::ts=>(∃a b,t = .list [a,b]/\Scal k e.key a/\Scal v e.val b)/\MapRel k v es ts
 |_,_=>False
def Born (es:List MapEntry)(cl:Nat):Prop:=(∀x∈es,x.born<cl)/\(es.map (·.born)).Nodup
theorem zdd {k i j i' j':Nat}(hj:j<k)(hj':j'<k)(h:i*k+j=i'*k+j'):i=i'/\j=j':=by
 have h1:i=i':=by
  rcases Nat.lt_trichotomy i i' with hlt|heq|hgt
  · have:(i+1)*k<=i'*k:=Nat.mul_le_mul_right k hlt
    rw[Nat.add_mul]at this;omega
  ·exact heq
  · have:(i'+1)*k<=i*k:=Nat.mul_le_mul_right k hgt
    rw[Nat.add_mul]at this;omega
 subst h1
 exact⟨rfl,by omega⟩
theorem za7 {k i j n:Nat}(hi:i<n)(hj:j<k):i*k+j<n*k:=by
 have:(i+1)*k<=n*k:=Nat.mul_le_mul_right k hi
 rw[Nat.add_mul]at this;omega
variable {tab:Tab}
theorem DRel.frame{w w':World}{dp:Bool}{ck:CK}{v:Value}{t:T}{F:CS}(h:DRel tab w dp ck v t F)(s:SameOn w w' F):DRel tab w' dp ck v t F:=by
 induction h with
 |int=>exact .int
 |bool=>exact .bool
 |str=>exact .str
 |hole=>exact .hole
 | @sl et ti rows a n c b off vs Fs F hti hsz hn hc ha hwf hcell hrel hown hdis hdr hF ih =>
   subst hF
   have hle:n*ti.size<=(if dp then c else n)*ti.size:=Nat.mul_le_mul_right _ (by split<;>omega)
   refine .sl (vs:=vs) (Fs:=Fs) hti hsz hn hc ha hwf ?_ ?_ ?_ hdis hdr rfl
   · intro i j hi hj
     have hp:=za7 hi hj
     rw[(s b _ (.inl ⟨rfl,by omega,by omega⟩)).1];exact hcell i j hi hj
   · intro i j ck hi hck
     have hj:j<ti.size:=by
      have:=(List.getElem?_eq_some_iff.1 hck).1
      omega
     exact ih i j ck hi hck (s.sub fun b' o' hf=>.inr ⟨i,j,hi,hj,hf⟩)
   · intro hd x hx
     obtain⟨v,h1,h3⟩:=hown hd x hx
     have hs:=s b (off+x) (.inl ⟨rfl,by omega,by rw[hd];simpa using hx⟩)
     exact⟨v,hs.1.trans h1,hs.2.trans h3⟩
theorem DRel.there {w : World} {dp : Bool} {ck : CK} {v : Value} {t : T} {F : CS} (h : DRel tab w dp ck v t F) : ∀ b o, F b o -> ∃ u, cellAt w b o = some u := by
 induction h with
 |int=>exact fun _ _ h=>h.elim
 |bool=>exact fun _ _ h=>h.elim
 |str=>exact fun _ _ h=>h.elim
 |hole=>exact fun _ _ h=>h.elim
 | @sl et ti rows a n c b off vs Fs F hti hsz hn hc ha hwf hcell hrel hown hdis hdr hF ih =>
   subst hF
   rintro b' o' (⟨rfl,h1,h2⟩|⟨i,j,hi,hj,hf⟩)
   · cases dp with
     | true =>
       obtain⟨v,hv,_⟩:=hown rfl (o'-off) (by simp at h2;omega)
       exact⟨v,by rw[<- hv];congr 1;omega⟩
     | false =>
       simp at h2
       have hk:0<ti.size:=by
        rcases Nat.eq_zero_or_pos ti.size with h|h
        ·rw[h]at h2;omega
        ·exact h
       refine⟨vs ((o'-off) / ti.size) ((o'-off)%ti.size),?_⟩
       have h3:=hcell ((o'-off) / ti.size) ((o'-off)%ti.size) ((Nat.div_lt_iff_lt_mul hk).2 (by omega)) (Nat.mod_lt _ hk)
       rw[<- h3];congr 1
       have:=Nat.div_add_mod (o'-off) ti.size
       rw[Nat.mul_comm]at this;omega
   · obtain⟨ck,hck⟩:∃ck,ti.cks[j]? = some ck:=⟨_,List.getElem?_eq_getElem (by omega)⟩
     exact ih i j ck hi hck b' o' hf
theorem zbA {w:World}{b o:Nat}{v:Value}(h:cellAt w b o=some v):b<w.heap.size:=block_lt_of_cell h
theorem DRel.share{w:World}{dp:Bool}{ck:CK}{v:Value}{t:T}{F:CS}(h:DRel tab w dp ck v t F):∃F',Sub F' F/\DRel tab w false ck v t F':=by
 induction h with
 |int=>exact⟨_,Sub.refl _,.int⟩
 |bool=>exact⟨_,Sub.refl _,.bool⟩
 |str=>exact⟨_,Sub.refl _,.str⟩
 |hole=>exact⟨_,Sub.refl _,.hole⟩
 | @sl et ti rows a n c b off vs Fs F hti hsz hn hc ha hwf hcell hrel hown hdis hdr hF ih =>
   subst hF
   have hle:n*ti.size<=(if dp then c else n)*ti.size:=Nat.mul_le_mul_right _ (by split<;>omega)
   have hch:∀i j,∃F',i<n->j<ti.size->Sub F' (Fs i j)/\∀ck,ti.cks[j]? = some ck->DRel tab w false ck (vs i j) (cellT ti.size rows i j) F':=by
    intro i j
    by_cases hij:i<n/\j<ti.size
    · obtain⟨hi,hj⟩:=hij
      obtain⟨ck,hck⟩:∃ck,ti.cks[j]? = some ck:=⟨_,List.getElem?_eq_getElem (by omega)⟩
      obtain⟨F',h1,h2⟩:=ih i j ck hi hck
      refine⟨F',fun _ _=>⟨h1,fun ck' hck'=>?_⟩⟩
      rw[hck]at hck';cases hck';exact h2
    ·exact⟨Emp,fun hi hj=>absurd ⟨hi,hj⟩ hij⟩
   let G:Nat->Nat->CS:=fun i j=>Classical.choose (hch i j)
   have hG:∀i j,i<n->j<ti.size->Sub (G i j) (Fs i j)/\∀ck,ti.cks[j]? = some ck->DRel tab w false ck (vs i j) (cellT ti.size rows i j) (G i j) :=
    fun i j=>Classical.choose_spec (hch i j)
   refine⟨rowF b off n n ti.size G,?_,.sl (Fs:=G) hti hsz hn hc ha hwf hcell ?_ (fun h=>by cases h) (fun h=>by cases h) (fun h=>by cases h) rfl⟩
   · rintro b' o' (⟨rfl,h1,h2⟩|⟨i,j,hi,hj,hf⟩)
     ·exact .inl ⟨rfl,h1,by omega⟩
     ·exact .inr ⟨i,j,hi,hj,(hG i j hi hj).1 _ _ hf⟩
   · intro i j ck hi hck
     have hj:j<ti.size:=by
      have:=(List.getElem?_eq_some_iff.1 hck).1
      omega
     exact (hG i j hi hj).2 ck hck
def setT (k:Nat)(rows:List T)(i j:Nat)(t:T):List T:=if k=1 then rows.set i t else rows.set i ((rows.getD i .hole).setC j t)
theorem zc9 {k:Nat}{rows:List T}{i j:Nat}{t:T}:(setT k rows i j t).length=rows.length:=by unfold setT;split<;>simp
theorem ziW {k:Nat}{rows:List T}{i j:Nat}{t:T}(h:WfRows k rows):WfRows k (setT k rows i j t):=by
 intro hk i' hi'
 rw[zc9]at hi'
 unfold setT
 rw[if_neg hk]
 obtain⟨l,h1,h2⟩:=h hk i' hi'
 by_cases e:i=i'
 · subst e
   refine⟨l.set j t,?_,by simpa using h2⟩
   rw[List.getElem?_set_self hi',List.getD_eq_getElem?_getD,h1];rfl
 ·exact⟨l,by rw[List.getElem?_set_ne e];exact h1,h2⟩
theorem zb9 {k:Nat}{rows:List T}{i j:Nat}{t:T}(hi:i<rows.length)(hj:j<k)(h:WfRows k rows):cellT k (setT k rows i j t) i j=t:=by
 unfold cellT setT
 by_cases hk:k=1
 ·rw[if_pos hk,if_pos hk,List.getD_eq_getElem?_getD,List.getElem?_set_self hi];rfl
 · rw[if_neg hk,if_neg hk]
   obtain⟨l,h1,h2⟩:=h hk i hi
   rw[List.getD_eq_getElem?_getD,List.getElem?_set_self hi,List.getD_eq_getElem?_getD,h1]
   simp only[Option.getD_some,T.setC,T.cell]
   rw[List.getD_eq_getElem?_getD,List.getElem?_set_self (by omega)];rfl
theorem zbY {k:Nat}{rows:List T}{i j i' j':Nat}{t:T}(hi:i<rows.length)(hj:j<k)(hj':j'<k)(h:WfRows k rows)(hne:(i,j)≠(i',j')):cellT k (setT k rows i j t) i' j'=cellT k rows i' j':=by
 unfold cellT setT
 by_cases hk:k=1
 · have:i≠i':=fun e=>hne (by rw[e,show j=j' by omega])
   rw[if_pos hk,if_pos hk,if_pos hk,List.getD_eq_getElem?_getD,List.getElem?_set_ne this,List.getD_eq_getElem?_getD]
 · rw[if_neg hk,if_neg hk,if_neg hk]
   by_cases e:i=i'
   · subst e
     have hjj:j≠j':=fun e=>hne (by rw[e])
     obtain⟨l,h1,h2⟩:=h hk i hi
     rw[List.getD_eq_getElem?_getD,List.getElem?_set_self hi,List.getD_eq_getElem?_getD,h1]
     simp only[Option.getD_some,T.setC,T.cell]
     rw[List.getD_eq_getElem?_getD,List.getElem?_set_ne hjj,List.getD_eq_getElem?_getD]
   ·rw[List.getD_eq_getElem?_getD,List.getElem?_set_ne e,List.getD_eq_getElem?_getD]
theorem List.getD_some_lt{α:Type}{l:List α}{j:Nat}{x:α}(h:l[j]? = some x):j<l.length:=(List.getElem?_eq_some_iff.1 h).1
theorem DRel.isSlice{w:World}{dp:Bool}{et:TypeId}{v:Value}{t:T}{F:CS}(h:DRel tab w dp (.sl et) v t F):∃a n c,v = .slice a n c:=by
 cases h with
 |hole=>exact⟨_,_,_,rfl⟩
 |sl=>exact⟨_,_,_,rfl⟩
theorem DRel.get{w:World}{dp:Bool}{et:TypeId}{ti:TI}{rows:List T}{b off n c:Nat}{F:CS}
 (h:DRel tab w dp (.sl et) (.slice (some ⟨b,off,none⟩) n c) (.list rows) F) (hti:tab.get et=some ti) {i j:Nat} {ck:CK} (hi:i<n) (hck:ti.cks[j]? = some ck) :
 ∃v F',cellAt w b (off+i*ti.size+j)=some v/\DRel tab w dp ck v (cellT ti.size rows i j) F'/\Sub F' F:=by
 cases h with
 | @sl et ti' rows _ n c b' off' vs Fs F hti' hsz hn hc ha hwf hcell hrel hown hdis hdr hF =>
   rw[hti]at hti';cases hti'
   rcases ha with ha|ha
   · cases ha
     have hj:=List.getD_some_lt hck
     rw[<- hsz]at hj
     refine⟨_,_,hcell i j hi hj,hrel i j ck hi hck,?_⟩
     subst hF
     exact fun b o hf=>.inr ⟨i,j,hi,hj,hf⟩
   ·omega
theorem DRel.put{w w':World}{et:TypeId}{ti:TI}{rows:List T}{b off n c:Nat}{F F':CS}
 (h:DRel tab w true (.sl et) (.slice (some ⟨b,off,none⟩) n c) (.list rows) F) (hti:tab.get et=some ti) {i j:Nat} {ck:CK} {v':Value} {t':T} (hi:i<n) (hck:ti.cks[j]? = some ck)
 (hv:cellAt w' b (off+i*ti.size+j)=some v') (hfz:frozenAt w' b (off+i*ti.size+j)=frozenAt w b (off+i*ti.size+j))
 (hs:∀b' o',F b' o'->¬(b'=b/\o'=off+i*ti.size+j)->SameAt w w' b' o')
 (rel:DRel tab w' true ck v' t' F') (dj:Disj F F') :
 ∃F'',Sub F'' (fun b o=>F b o\/F' b o)/\DRel tab w' true (.sl et) (.slice (some ⟨b,off,none⟩) n c) (.list (setT ti.size rows i j t')) F'':=by
 cases h with
 | @sl et ti' rows _ n c b' off' vs Fs F hti' hsz hn hc ha hwf hcell hrel hown hdis hdr hF =>
   rw[hti]at hti';cases hti'
   rcases ha with ha|ha
   case inr=>omega
   cases ha
   have hj:=List.getD_some_lt hck
   rw[<- hsz]at hj
   have hpl:=za7 hi hj
   have hcn:n*ti.size<=c*ti.size:=Nat.mul_le_mul_right _ hc
   have hself:F b (off+i*ti.size+j):=by subst hF;exact .inl ⟨rfl,by omega,by simp;omega⟩
   refine⟨rowF b off c n ti.size (fun i' j'=>if (i,j)=(i',j') then F' else Fs i' j'),?_,?_⟩
   · rintro b' o' (⟨rfl,h1,h2⟩|⟨i',j',hi',hj',hf⟩)
     ·exact .inl (by subst hF;exact .inl ⟨rfl,h1,by simpa using h2⟩)
     · by_cases e:(i,j)=(i',j')
       ·rw[if_pos e]at hf;exact .inr hf
       ·rw[if_neg e]at hf;exact .inl (by subst hF;exact .inr ⟨i',j',hi',hj',hf⟩)
   · refine .sl (vs:=fun i' j'=>if (i,j)=(i',j') then v' else vs i' j') (Fs:=fun i' j'=>if (i,j)=(i',j') then F' else Fs i' j') hti hsz (by rw[zc9];exact hn) hc (.inl rfl) (ziW hwf) ?_ ?_ ?_ ?_ ?_ rfl
     · intro i' j' hi' hj'
       by_cases e:(i,j)=(i',j')
       ·rw[if_pos e];cases e;exact hv
       · rw[if_neg e,<- hcell i' j' hi' hj']
         have hp':=za7 hi' hj'
         exact (hs b _ (by subst hF;exact .inl ⟨rfl,by omega,by simp;omega⟩) fun hh=>e (by
          obtain⟨e1,e2⟩:=zdd hj hj' (show i*ti.size+j=i'*ti.size+j' by omega)
          rw[e1,e2])).1
     · intro i' j' ck' hi' hck'
       have hj':=List.getD_some_lt hck'
       rw[<- hsz]at hj'
       by_cases e:(i,j)=(i',j')
       · simp only[if_pos e];cases e;rw[hck]at hck';cases hck'
         rw[zb9 (by omega) hj hwf];exact rel
       · simp only[if_neg e]
         rw[zbY (by omega) hj hj' hwf e]
         refine (hrel i' j' ck' hi' hck').frame fun b' o' hf=>hs b' o' (by subst hF;exact .inr ⟨i',j',hi',hj',hf⟩) ?_
         rintro⟨rfl,rfl⟩
         exact hdr rfl i' j' hi' hj' _ _ ⟨rfl,by omega,by omega⟩ hf
     · intro _ x hx
       obtain⟨u,h1,h2⟩:=hown rfl x hx
       by_cases e:off+x=off+i*ti.size+j
       ·rw[e];exact⟨v',hv,by rw[hfz,<- e];exact h2⟩
       · have:=hs b (off+x) (by subst hF;exact .inl ⟨rfl,by omega,by simp;omega⟩) fun hh=>e hh.2
         exact⟨u,this.1.trans h1,this.2.trans h2⟩
     · intro _ i1 j1 i2 j2 a1 b1 a2 b2 hne
       by_cases e1:(i,j)=(i1,j1)
       · rw[if_pos e1,if_neg (by rw[e1];exact hne)]
         exact (dj.symm).sub (Sub.refl _) (by subst hF;exact fun b o hf=>.inr ⟨i2,j2,a2,b2,hf⟩)
       · rw[if_neg e1]
         by_cases e2:(i,j)=(i2,j2)
         · rw[if_pos e2]
           exact dj.sub (by subst hF;exact fun b o hf=>.inr ⟨i1,j1,a1,b1,hf⟩) (Sub.refl _)
         ·rw[if_neg e2];exact hdis rfl i1 j1 i2 j2 a1 b1 a2 b2 hne
     · intro _ i1 j1 a1 b1
       by_cases e1:(i,j)=(i1,j1)
       · rw[if_pos e1]
         exact dj.sub (by subst hF;exact fun b o hf=>.inl (by simpa using hf)) (Sub.refl _)
       ·rw[if_neg e1];exact hdr rfl i1 j1 a1 b1
theorem DRel.take{w:World}{et et':TypeId}{ti:TI}{rows:List T}{b off n c:Nat}{F:CS}
 (h:DRel tab w true (.sl et) (.slice (some ⟨b,off,none⟩) n c) (.list rows) F) (hti:tab.get et=some ti) {i j:Nat} (hi:i<n) (hck:ti.cks[j]? = some (.sl et')) :
 ∃ v Fn Fr, cellAt w b (off + i * ti.size + j) = some v /\ DRel tab w true (.sl et') v (cellT ti.size rows i j) Fn /\ Disj Fn Fr /\ Sub Fn F /\ Sub Fr F /\
   DRel tab w true (.sl et) (.slice (some ⟨b,off,none⟩) n c) (.list (setT ti.size rows i j .hole)) Fr:=by
 cases h with
 | @sl et ti' rows _ n c b' off' vs Fs F hti' hsz hn hc ha hwf hcell hrel hown hdis hdr hF =>
   rw[hti]at hti';cases hti'
   rcases ha with ha|ha
   case inr=>omega
   cases ha
   have hj:=List.getD_some_lt hck
   rw[<- hsz]at hj
   have hcn:n*ti.size<=c*ti.size:=Nat.mul_le_mul_right _ hc
   have hrel0:=hrel i j _ hi hck
   obtain⟨va,vn,vc,hva⟩:=hrel0.isSlice
   refine⟨vs i j,Fs i j,rowF b off c n ti.size (fun i' j'=>if (i,j)=(i',j') then Emp else Fs i' j'),hcell i j hi hj,hrel0,?_,?_,?_,?_⟩
   · rintro b' o' hf (⟨rfl,h1,h2⟩|⟨i',j',hi',hj',hf'⟩)
     ·exact hdr rfl i j hi hj _ _ ⟨rfl,h1,h2⟩ hf
     · by_cases e:(i,j)=(i',j')
       ·rw[if_pos e]at hf';exact hf'
       ·rw[if_neg e]at hf';exact hdis rfl i j i' j' hi hj hi' hj' e _ _ hf hf'
   ·subst hF;exact fun b o hf=>.inr ⟨i,j,hi,hj,hf⟩
   · subst hF
     rintro b' o' (⟨rfl,h1,h2⟩|⟨i',j',hi',hj',hf'⟩)
     ·exact .inl ⟨rfl,h1,by simpa using h2⟩
     · by_cases e:(i,j)=(i',j')
       ·rw[if_pos e]at hf';exact hf'.elim
       ·rw[if_neg e]at hf';exact .inr ⟨i',j',hi',hj',hf'⟩
   · refine .sl (vs:=vs) (Fs:=fun i' j'=>if (i,j)=(i',j') then Emp else Fs i' j') hti hsz (by rw[zc9];exact hn) hc (.inl rfl) (ziW hwf) hcell ?_ hown ?_ ?_ rfl
     · intro i' j' ck' hi' hck'
       have hj':=List.getD_some_lt hck'
       rw[<- hsz]at hj'
       by_cases e:(i,j)=(i',j')
       · simp only[if_pos e];cases e;rw[hck]at hck';cases hck'
         rw[zb9 (by omega) hj hwf,hva];exact .hole
       · simp only[if_neg e]
         rw[zbY (by omega) hj hj' hwf e]
         exact hrel i' j' ck' hi' hck'
     · intro _ i1 j1 i2 j2 a1 b1 a2 b2 hne
       by_cases e1:(i,j)=(i1,j1)
       ·rw[if_pos e1];exact fun _ _ h=>h.elim
       · rw[if_neg e1]
         by_cases e2:(i,j)=(i2,j2)
         ·rw[if_pos e2];exact fun _ _ _ h=>h.elim
         ·rw[if_neg e2];exact hdis rfl i1 j1 i2 j2 a1 b1 a2 b2 hne
     · intro _ i1 j1 a1 b1
       by_cases e1:(i,j)=(i1,j1)
       ·rw[if_pos e1];exact fun _ _ _ h=>h.elim
       ·rw[if_neg e1];exact hdr rfl i1 j1 a1 b1
theorem zbX {k l h:Nat}{rows:List T}{i j:Nat}(hi:i<h-l):cellT k ((rows.take h).drop l) i j=cellT k rows (l+i) j:=by
 have:((rows.take h).drop l).getD i .hole=rows.getD (l+i) .hole:=by
  rw[List.getD_eq_getElem?_getD,List.getElem?_drop,List.getElem?_take_of_lt (by omega),List.getD_eq_getElem?_getD]
 unfold cellT;rw[this]
theorem zhR {k l h:Nat}{rows:List T}(hh:h<=rows.length)(hw:WfRows k rows):WfRows k ((rows.take h).drop l):=by
 intro hk i hi
 simp at hi
 obtain⟨x,h1,h2⟩:=hw hk (l+i) (by omega)
 exact⟨x,by rw[List.getElem?_drop,List.getElem?_take_of_lt (by omega)];exact h1,h2⟩
theorem DRel.part{w:World}{dp:Bool}{et:TypeId}{ti:TI}{rows:List T}{a:Option Addr}{n c l h m:Nat}{F:CS}
 (hr:DRel tab w dp (.sl et) (.slice a n c) (.list rows) F) (hti:tab.get et=some ti) (hl:l<=h) (hh:h<=n) (hm:h<=m) (hmc:m<=c) :
 ∃F',Sub F' F/\DRel tab w dp (.sl et) (.slice (if m=l then a else a.map (·.add (l*ti.size))) (h-l) (m-l)) (.list ((rows.take h).drop l)) F':=by
 cases hr with
 | @sl et ti' rows _ n c b off vs Fs F hti' hsz hn hc ha hwf hcell hrel hown hdis hdr hF =>
   rw[hti]at hti';cases hti'
   have hmul:∀x,(x+l)*ti.size=x*ti.size+l*ti.size:=fun x=>Nat.add_mul ..
   have hln:((rows.take h).drop l).length=h-l:=by simp;omega
   have hhn:h*ti.size<=n*ti.size:=Nat.mul_le_mul_right _ hh
   have hmc':m*ti.size<=c*ti.size:=Nat.mul_le_mul_right _ hmc
   have hsub1:(h-l)*ti.size+l*ti.size=h*ti.size:=by rw[<- hmul];congr 1;omega
   have hsub2:(m-l)*ti.size+l*ti.size=m*ti.size:=by rw[<- hmul];congr 1;omega
   refine⟨rowF b (off+l*ti.size) (if dp then m-l else h-l) (h-l) ti.size (fun i j=>Fs (l+i) j),?_,.sl (b:=b) (off:=off+l*ti.size) (vs:=fun i j=>vs (l+i) j) (Fs:=fun i j=>Fs (l+i) j) hti hsz hln (by omega) ?_ (zhR (by omega) hwf) ?_ ?_ ?_ ?_ ?_ rfl⟩
   · subst hF
     rintro b' o' (⟨rfl,h1,h2⟩|⟨i',j',hi',hj',hf'⟩)
     · refine .inl ⟨rfl,by omega,?_⟩
       cases dp<;>simp at h2 ⊢<;>omega
     ·exact .inr ⟨l+i',j',by omega,hj',hf'⟩
   · by_cases e:m=l
     ·exact .inr (by omega)
     · rw[if_neg e]
       rcases ha with ha|ha
       · left;rw[ha]
         simp only[Option.map_some,Addr.add]
         split
         ·rename_i h0;rw[h0];simp
         ·rfl
       ·exact .inr (by omega)
   · intro i j hi hj
     have:=hcell (l+i) j (by omega) hj
     rw[<- this];congr 1;rw[show l+i=i+l by omega,hmul];omega
   · intro i j ck hi hck
     rw[zbX hi]
     exact hrel (l+i) j ck (by omega) hck
   · intro hd x hx
     obtain⟨v,h1,h2⟩:=hown hd (l*ti.size+x) (by omega)
     exact⟨v,by rw[<- h1];congr 1;omega,by rw[<- h2];congr 1;omega⟩
   · intro hd i j i' j' hi hj hi' hj' hne
     exact hdis hd _ _ _ _ (by omega) hj (by omega) hj' (fun e=>hne (by simp at e ⊢;omega))
   · intro hd i j hi hj
     refine (hdr hd (l+i) j (by omega) hj).sub ?_ (Sub.refl _)
     rintro b' o' ⟨rfl,h1,h2⟩
     exact⟨rfl,by omega,by omega⟩
end Gp
namespace Gp
open Go
inductive Leaf where
 |dead
 |int (k:IntKind) (e:Exp)|bool (e:Exp)|str (e:Exp)
 |sl (o:Nat) (et:TypeId) (off len:Exp)
 |slw (o:Nat) (et:TypeId)
 |nil
 |pb (o j:Nat)
 |pe (o:Nat) (et:TypeId) (i:Exp) (j:Nat)
 |fn (f:Nat) (caps:List Nat)
 |mp (o:Nat)
 deriving DecidableEq,Repr,Inhabited
inductive S1 where
 |one (l:Leaf)
 |agg (ls:List Leaf)
 deriving DecidableEq,Repr,Inhabited
inductive SV where
 |s (x:S1)
 |tup (xs:List S1)
 deriving DecidableEq,Repr,Inhabited
inductive Obj where
 |row (dp:Bool) (et:TypeId) (d:Exp)
 |view (par:Nat) (pd:Exp) (i:Exp) (j:Nat) (et:TypeId) (d:Exp)
 |box (rw:Bool) (cells:List Leaf)
 |map (k v:CK) (d:Exp)
 deriving DecidableEq,Repr,Inhabited
def Obj.owned:Obj->Bool
 |.row dp _ _=>dp
 |.view ..=>false
 |.box rw _=>rw
 |.map ..=>true
def Obj.isView:Obj->Bool
 |.view ..=>true
 |_=>false
def look {α:Type}(k:Nat):List (Nat × α)->Option α
 |[]=>none
 |(k',x)::r=>if Nat.beq k' k then some x else look k r
def drop {α:Type}(k:Nat):List (Nat × α)->List (Nat × α)
 |[]=>[]
 |(k',x)::r=>if Nat.beq k' k then drop k r else (k',x)::drop k r
def putL {α:Type}(k:Nat)(x:α)(l:List (Nat × α)):List (Nat × α):=(k,x)::drop k l
theorem zaT {α:Type}(k:Nat):∀l:List (Nat × α),look k (drop k l)=none
 |[]=>rfl
 | (k', x) :: r => by
   simp only[drop];split
   ·exact zaT k r
   ·simp only[look];rw[if_neg ‹_›];exact zaT k r
theorem zaX {α:Type}{k k':Nat}(h:k≠k'):∀l:List (Nat × α),look k' (drop k l)=look k' l
 |[]=>rfl
 | (q, x) :: r => by
   simp only[drop];split
   · rename_i e
     have:q=k:=by simpa using e
     subst this
     simp only[look];rw[if_neg (by simpa using h)];exact zaX h r
   · simp only[look];split
     ·rfl
     ·exact zaX h r
theorem zcz {α:Type}(k:Nat)(x:α)(l:List (Nat × α)):look k (putL k x l)=some x:=by simp[putL,look]
theorem zdJ {α:Type}{k k':Nat}(h:k≠k')(x:α)(l:List (Nat × α)):look k' (putL k x l)=look k' l:=by
 simp only[putL,look];rw[if_neg (by simpa using h)];exact zaX h l
structure Gam where
 tm:List (Nat × (Grd × SV))
 ob:List (Nat × (Grd × Obj))
 deriving Repr,Inhabited,DecidableEq
def Gam.get (Γ:Gam)(t:Nat):Option (Grd × SV):=look t Γ.tm
def Gam.obj (Γ:Gam)(o:Nat):Option (Grd × Obj):=look o Γ.ob
def Gam.put (Γ:Gam)(t:Nat)(x:Grd × SV):Gam:={ Γ with tm:=putL t x Γ.tm }
def Gam.setOb(Γ:Gam)(o:Nat)(x:Grd × Obj):Gam:={ Γ with ob:=putL o x Γ.ob }
def Gam.delOb(Γ:Gam)(o:Nat):Gam:={ Γ with ob:=drop o Γ.ob }
theorem Gam.get_put_self(Γ:Gam)(t:Nat)(x:Grd × SV):(Γ.put t x).get t=some x:=zcz ..
theorem Gam.get_put_ne(Γ:Gam){t t':Nat}(x:Grd × SV)(h:t≠t'):(Γ.put t x).get t'=Γ.get t':=zdJ h ..
theorem Gam.obj_put(Γ:Gam)(t:Nat)(x:Grd × SV)(o:Nat):(Γ.put t x).obj o=Γ.obj o:=rfl
theorem Gam.obj_setOb_self(Γ:Gam)(o:Nat)(x:Grd × Obj):(Γ.setOb o x).obj o=some x:=zcz ..
theorem Gam.obj_setOb_ne(Γ:Gam){o o':Nat}(x:Grd × Obj)(h:o≠o'):(Γ.setOb o x).obj o'=Γ.obj o':=zdJ h ..
theorem Gam.obj_delOb_self(Γ:Gam)(o:Nat):(Γ.delOb o).obj o=none:=zaT ..
theorem Gam.obj_delOb_ne(Γ:Gam){o o':Nat}(h:o≠o'):(Γ.delOb o).obj o'=Γ.obj o':=zaX h ..
def holeE (o:Nat):Exp:=.un (.cell o) (.int 0)
def isHoleE:Exp->Bool
 |.un (.cell _) (.int n)=>n==0
 |_=>false
structure Ctx where
 A:Nat->Option Addr
 N:Nat->Nat
 K:Nat->Nat
 F:Nat->CS
def Tab.sz (tab:Tab)(t:TypeId):Nat:=((tab.get t).map (·.size)).getD 0
section
variable (tab:Tab)(C:Ctx)(kn:Nat->Prop)(ρ:Env)
def LeafRel:Leaf->Value->Prop
 |.dead,_=>True
 |.int k e,v=>∃n,den ρ e = .int n/\v = .int k n
 |.bool e,v=>∃b,den ρ e = .bool b/\v = .bool b
 |.str e,v=>∃s,den ρ e = .str s/\v = .string s
 |.sl o et off len,v=>kn o/\∃(m n:Nat) (a:Option Addr) (c:Nat),den ρ off = .int m/\den ρ len = .int n/\v = .slice a n c/\m+n<=C.N o/\n<=c/\m+c=C.K o /\
  (c=0\/∃b base,C.A o=some ⟨b,base,none⟩/\a=some ⟨b,base+m*tab.sz et,none⟩)
 |.slw o et,v=>kn o/\∃a,v = .slice a (C.N o) (C.K o)/\(C.K o=0\/∃b base,C.A o=some ⟨b,base,none⟩/\a=some ⟨b,base,none⟩)
 |.nil,v=>v = .slice none 0 0
 |.pb o j,v=>kn o/\∃b base,C.A o=some ⟨b,base,none⟩/\v = .pointer (some ⟨b,base+j,none⟩)
 |.pe o et i j,v=>kn o/\∃(m:Nat) (b base:Nat),den ρ i = .int m/\m<C.N o/\C.A o=some ⟨b,base,none⟩/\v = .pointer (some ⟨b,base+m*tab.sz et+j,none⟩)
 |.fn f caps,v=>∃vs:Array Value,v = .func (.func f) #[] vs/\vs.size=caps.length /\
  ∀(i o:Nat),caps[i]? = some o->kn o/\∃b base,C.A o=some ⟨b,base,none⟩/\vs[i]? = some (.pointer (some ⟨b,base,none⟩))
 |.mp o,v=>kn o/\∃r,C.A o=some ⟨r,0,none⟩/\v = .map (some r)
def LeavesRel(ls:List Leaf)(vs:Array Value):Prop:=vs.size=ls.length/\∀(i:Nat) l,ls[i]? = some l->∃u,vs[i]? = some u/\LeafRel tab C kn ρ l u
def S1Rel:S1->Value->Prop
 |.one l,v=>LeafRel tab C kn ρ l v/\∀cs,v ≠ .agg cs
 |.agg ls,v=>∃vs,v = .agg vs/\LeavesRel tab C kn ρ ls vs
def SVRel:SV->Value->Prop
 |.s x,v=>S1Rel tab C kn ρ x v
 |.tup xs,v=>∃vs,v = .tuple vs/\vs.size=xs.length/\∀(i:Nat) x,xs[i]? = some x->∃u,vs[i]? = some u/\S1Rel tab C kn ρ x u
def ObRel (Γ : Gam) (w : World) (o : Nat) : Obj -> Prop
 |.row dp et d=>∃rows,den ρ d = .list rows/\DRel tab w dp (.sl et) (.slice (C.A o) (C.N o) (C.K o)) (.list rows) (C.F o)
 |.view par pd i j et d=>∀gp pet,Γ.obj par=some (gp,.row true pet pd)->holdsG ρ gp ->
  ∃ (m b base : Nat) (rows : List T), den ρ i = .int m /\ m < C.N par /\ C.A par = some ⟨b, base, none⟩ /\ den ρ pd = .list rows /\
    ((∃o0,d=holeE o0/\kn o0/\C.A o=C.A o0/\C.N o=C.N o0/\C.K o=C.K o0)\/∃rs,den ρ d = .list rs/\rs.length=C.N o/\cellT (tab.sz pet) rows m j = .list rs)/\(∃ti,tab.get pet=some ti/\ti.cks[j]? = some (.sl et)) /\
    cellAt w b (base+m*tab.sz pet+j)=some (.slice (C.A o) (C.N o) (C.K o))
 |.box rw cells=>∃b base,(base=0/\C.A o=some ⟨b,base,none⟩)/\C.F o=Rng b base cells.length /\
  (∀(j:Nat) l,cells[j]? = some l->∃v,cellAt w b (base+j)=some v/\LeafRel tab C kn ρ l v) /\
  (rw=true->∀x,x<cells.length->frozenAt w b (base+x)=false)
 |.map k v d=>∃r es cl ents,C.A o=some ⟨r,0,none⟩/\C.F o=Blk r/\w.heap[r]? = some (.map es cl)/\den ρ d = .list ents/\(Born es.toList cl/\MapRel k v es.toList ents)
end
structure Frame(Wr:CS)(w0 w:World):Prop where
 size:w0.heap.size<=w.heap.size
 blk:∀b,b<w0.heap.size->(∀x,¬Wr b x)->w.heap[b]? = w0.heap[b]?
 cel:∀b x,b<w0.heap.size->¬Wr b x->SameAt w0 w b x
 os:w.os=w0.os
 tape:w.tape=w0.tape
 output:w.output=w0.output
structure Kn where
 o:Nat->Prop
 v:Nat->Prop
def Obj.verOk(kn:Kn):Obj->Prop
 |.row true _ (.tri (.punch _) _ _ _)=>True
 |.row true _ d=>∃x,d = .var x/\kn.v x
 |.view par pd _ _ _ _=>kn.o par/\∃x,pd = .var x/\kn.v x
 |_=>True
structure Rel(tab:Tab)(Γ:Gam)(ρ:Env)(tm:Array Value)(w:World)(C:Ctx)(kn:Kn)(Wr:CS)(w0:World):Prop where
 tms:∀t g sv,Γ.get t=some (g,sv)->(holdsG ρ g->SVRel tab C kn.o ρ sv (tm.getD t undef))/\(¬holdsG ρ g->tm.getD t undef=undef)
 obs:∀o g ob,Γ.obj o=some (g,ob)->kn.o o/\ob.verOk kn/\(holdsG ρ g->ObRel tab C kn.o ρ Γ w o ob)
 dis:∀o o' g g' ob ob',Γ.obj o=some (g,ob)->Γ.obj o'=some (g',ob')->holdsG ρ g->holdsG ρ g'->o≠o'->ob.owned=true->ob'.isView=false->Disj (C.F o) (C.F o')
 own:∀o g ob,Γ.obj o=some (g,ob)->holdsG ρ g->ob.owned=true->∀b x,C.F o b x->Wr b x\/w0.heap.size<=b
 frm:Frame Wr w0 w
end Gp
namespace Gp
open Go
variable {tab:Tab}{Γ:Gam}{ρ:Env}{tm:Array Value}{w w':World}{C C':Ctx}{kn kn':Kn}{Wr:CS}{w0:World}
theorem zfS {tm:Array Value}{t:Nat}{v:Value}(h:t<tm.size):(tm.setIfInBounds t v).getD t undef=v:=by
 simp[Array.getD_eq_getD_getElem?,h]
theorem getD_set_ne{tm:Array Value}{t t':Nat}{v:Value}(h:t≠t'):(tm.setIfInBounds t v).getD t' undef=tm.getD t' undef:=by
 simp[Array.getD_eq_getD_getElem?,Array.getElem?_setIfInBounds_ne h]
theorem ObRel.congrObj{Γ':Gam}{o:Nat}{ob:Obj}{k:Nat->Prop}(h:ObRel tab C k ρ Γ w o ob)
 (ho:∀par pd i j et d,ob = .view par pd i j et d->∀gp pet,Γ'.obj par=some (gp,.row true pet pd)->holdsG ρ gp->∃gp',Γ.obj par=some (gp',.row true pet pd)/\holdsG ρ gp'):ObRel tab C k ρ Γ' w o ob:=by
 cases ob with
 |row dp et d=>exact h
 |box rw cells=>exact h
 |map k v d=>exact h
 | view par pd i j et d =>
   intro gp pet hp hg
   obtain⟨gp',h1,h2⟩:=ho _ _ _ _ _ _ rfl gp pet hp hg
   exact h gp' pet h1 h2
theorem Rel.put(h:Rel tab Γ ρ tm w C kn Wr w0){t:Nat}{g:Grd}{sv:SV}{v:Value}(ht:t<tm.size)
 (hv:holdsG ρ g->SVRel tab C kn.o ρ sv v) (hu:¬holdsG ρ g->v=undef):Rel tab (Γ.put t (g,sv)) ρ (tm.setIfInBounds t v) w C kn Wr w0 where
 tms t' g' sv' h':=by
  by_cases e:t=t'
  · subst e
    rw[Gam.get_put_self]at h';cases h'
    rw[zfS ht];exact⟨hv,hu⟩
  ·rw[Gam.get_put_ne _ _ e]at h';rw[getD_set_ne e];exact h.tms t' g' sv' h'
 obs o g' ob h':=by
  obtain⟨h1,h2,h3⟩:=h.obs o g' ob h'
  exact⟨h1,h2,fun hg=>(h3 hg).congrObj fun par pd i j et d _ gp pet hp hgp=>⟨gp,hp,hgp⟩⟩
 dis:=h.dis
 own:=h.own
 frm:=h.frm
theorem LeafRel.mono{k k':Nat->Prop}{l:Leaf}{v:Value}(h:LeafRel tab C k ρ l v)(hk:∀o,k o->k' o)
 (hC:∀o,k o->C'.A o=C.A o/\C'.N o=C.N o/\C'.K o=C.K o):LeafRel tab C' k' ρ l v:=by
 cases l with
 |dead=>trivial
 |int=>exact h
 |bool=>exact h
 |str=>exact h
 |nil=>exact h
 | sl o et off len =>
   obtain⟨ho,h⟩:=h
   obtain⟨e1,e2,e3⟩:=hC o ho
   refine⟨hk o ho,?_⟩
   rw[e1,e2,e3];exact h
 | slw o et =>
   obtain⟨ho,h⟩:=h
   obtain⟨e1,e2,e3⟩:=hC o ho
   exact⟨hk o ho,by rw[e1,e2,e3];exact h⟩
 | pb o j =>
   obtain⟨ho,h⟩:=h
   exact⟨hk o ho,by rw[(hC o ho).1];exact h⟩
 | pe o et i j =>
   obtain⟨ho,h⟩:=h
   exact⟨hk o ho,by rw[(hC o ho).1,(hC o ho).2.1];exact h⟩
 | fn f caps =>
   obtain⟨vs,h1,h2,h3⟩:=h
   refine⟨vs,h1,h2,fun i o hi=>?_⟩
   obtain⟨ho,h⟩:=h3 i o hi
   exact⟨hk o ho,by rw[(hC o ho).1];exact h⟩
 | mp o =>
   obtain⟨ho,h⟩:=h
   exact⟨hk o ho,by rw[(hC o ho).1];exact h⟩
theorem S1Rel.mono{k k':Nat->Prop}{x:S1}{v:Value}(h:S1Rel tab C k ρ x v)(hk:∀o,k o->k' o)
 (hC:∀o,k o->C'.A o=C.A o/\C'.N o=C.N o/\C'.K o=C.K o):S1Rel tab C' k' ρ x v:=by
 cases x with
 |one l=>exact⟨h.1.mono hk hC,h.2⟩
 | agg ls =>
   obtain⟨vs,h1,h2,h3⟩:=h
   refine⟨vs,h1,h2,fun i l hl=>?_⟩
   obtain⟨u,h4,h5⟩:=h3 i l hl
   exact⟨u,h4,h5.mono hk hC⟩
theorem SVRel.mono{k k':Nat->Prop}{x:SV}{v:Value}(h:SVRel tab C k ρ x v)(hk:∀o,k o->k' o)
 (hC:∀o,k o->C'.A o=C.A o/\C'.N o=C.N o/\C'.K o=C.K o):SVRel tab C' k' ρ x v:=by
 cases x with
 |s x=>exact S1Rel.mono h hk hC
 | tup xs =>
   obtain⟨vs,h1,h2,h3⟩:=h
   refine⟨vs,h1,h2,fun i l hl=>?_⟩
   obtain⟨u,h4,h5⟩:=h3 i l hl
   exact⟨u,h4,h5.mono hk hC⟩
theorem Obj.verOk.var{et:TypeId}{d:Exp}(h:Obj.verOk kn (.row true et d))(hp:isPunch d=false):∃x,d = .var x/\kn.v x:=by
 cases d with
 | tri q a b c =>
   cases q with
   |punch m=>cases hp
   |_=>exact h
 |_=>exact h
theorem Obj.verOk.mono{ob:Obj}(h:ob.verOk kn)(ho:∀x,kn.o x->kn'.o x)(hv:∀x,kn.v x->kn'.v x):ob.verOk kn':=by
 cases ob with
 | row dp et d => cases dp with
   | true =>
     cases d with
     | tri q a b c =>
       cases q with
       |punch m=>trivial
       |_=>obtain⟨x,h1,h2⟩:=h;cases h1
     |_=>obtain⟨x,h1,h2⟩:=h;exact⟨x,h1,hv x h2⟩
   |false=>trivial
 |view par pd i j et d=>obtain⟨h0,x,h1,h2⟩:=h;exact⟨ho _ h0,x,h1,hv x h2⟩
 |box=>trivial
 |map=>trivial
theorem ObRel.lt{o:Nat}{ob:Obj}{k:Nat->Prop}(h:ObRel tab C k ρ Γ w o ob)(hv:ob.isView=false){b x:Nat}(hf:C.F o b x):b<w.heap.size:=by
 cases ob with
 | row dp et d =>
   obtain⟨rows,_,h2⟩:=h
   obtain⟨u,hu⟩:=h2.there b x hf
   exact zbA hu
 |view=>cases hv
 | box rw cells =>
   obtain⟨b0,base,_,hF,hc,_⟩:=h
   rw[hF]at hf
   obtain⟨rfl,h1,h2⟩:=hf
   obtain⟨v,h3,_⟩:=hc (x-base) (cells[x-base]'(by omega)) (List.getElem?_eq_getElem (by omega))
   exact zbA h3
 | map k v d =>
   obtain⟨r,es,cl,ents,_,hF,hr,_⟩:=h
   rw[hF]at hf
   cases hf
   exact (Array.getElem?_eq_some_iff.1 hr).1
theorem ObRel.frame{o:Nat}{ob:Obj}{k:Nat->Prop}(h:ObRel tab C k ρ Γ w o ob)(hv:ob.isView=false)(s:SameOb w w' (C.F o)):ObRel tab C k ρ Γ w' o ob:=by
 cases ob with
 | map k v d =>
   obtain⟨r,es,cl,ents,hA,hF,hr,hd,hm⟩:=h
   exact⟨r,es,cl,ents,hA,hF,(s.2 r fun x=>by rw[hF];rfl).trans hr,hd,hm⟩
 |row dp et d=>obtain⟨rows,h1,h2⟩:=h;exact⟨rows,h1,h2.frame s.1⟩
 |view=>cases hv
 | box rw cells =>
   obtain⟨b,base,h1,hF,hc,hz⟩:=h
   refine⟨b,base,h1,hF,fun j l hl=>?_,fun hr x hx=>?_⟩
   · obtain⟨v,h3,h4⟩:=hc j l hl
     have hj:=List.getD_some_lt hl
     have:=s.1 b (base+j) (by rw[hF];exact⟨rfl,by omega,by omega⟩)
     exact⟨v,this.1.trans h3,h4⟩
   · have:=s.1 b (base+x) (by rw[hF];exact⟨rfl,by omega,by omega⟩)
     exact this.2.trans (hz hr x hx)
theorem ObRel.viewFrame{o par:Nat}{pd i d:Exp}{j:Nat}{et:TypeId}{k:Nat->Prop}(h:ObRel tab C k ρ Γ w o (.view par pd i j et d))
 (hp:∀gp pet,Γ.obj par=some (gp,.row true pet pd)->holdsG ρ gp->ObRel tab C k ρ Γ w par (.row true pet pd))
 (s:∀gp pet,Γ.obj par=some (gp,.row true pet pd)->holdsG ρ gp->SameOn w w' (C.F par)):ObRel tab C k ρ Γ w' o (.view par pd i j et d):=by
 intro gp pet h1 h2
 obtain⟨m,b,base,rows,a1,a2,a3,a4,a5,⟨ti,t1,t2⟩,a8⟩:=h gp pet h1 h2
 refine⟨m,b,base,rows,a1,a2,a3,a4,a5,⟨ti,t1,t2⟩,?_⟩
 obtain⟨rows',r1,r2⟩:=hp gp pet h1 h2
 rw[a3]at r2
 have hsz:tab.sz pet=ti.size:=by simp[Tab.sz,t1]
 cases r2 with
 | @sl et ti' rows _ n c b' off' vs Fs F hti' hsz' hn hc ha hwf hcell hrel hown hdis hdr hF =>
   rw[t1]at hti';cases hti'
   have hj:=List.getD_some_lt t2
   rw[<- hsz']at hj
   have hpl:=za7 a2 hj
   have hcn:C.N par*ti.size<=C.K par*ti.size:=Nat.mul_le_mul_right _ hc
   rcases ha with ha|ha
   · cases ha
     refine ((s gp pet h1 h2) _ _ ?_).1.trans a8
     rw[hF];exact .inl ⟨rfl,by rw[hsz];omega,by rw[hsz];simp;omega⟩
   ·rw[ha]at hc;omega
structure Grows(w w':World):Prop where
 size:w.heap.size<=w'.heap.size
 blk:∀b,b<w.heap.size->w'.heap[b]? = w.heap[b]?
 os:w'.os=w.os
 tape:w'.tape=w.tape
 output:w'.output=w.output
theorem Grows.refl(w:World):Grows w w:=⟨Nat.le_refl _,fun _ _=>rfl,rfl,rfl,rfl⟩
theorem Grows.trans{w w' w'':World}(h:Grows w w')(k:Grows w' w''):Grows w w'' :=
 ⟨Nat.le_trans h.size k.size,fun b hb=>(k.blk b (Nat.lt_of_lt_of_le hb h.size)).trans (h.blk b hb),k.os.trans h.os,k.tape.trans h.tape,k.output.trans h.output⟩
theorem Grows.drew(w:World):Grows w w.drew:=⟨Nat.le_refl _,fun _ _=>rfl,rfl,rfl,rfl⟩
theorem Grows.push(w:World)(o:Go.Obj):Grows w (w.alloc o):=⟨by show w.heap.size<=(w.heap.push o).size;simp,fun b hb=>heap_alloc_old w o b hb,rfl,rfl,rfl⟩
theorem za8 {b x:Nat}(h:w'.heap[b]? = w.heap[b]?):SameAt w w' b x:=by
 constructor
 ·simp only[cellAt,World.cell?,h]
 ·simp only[frozenAt,h]
theorem Grows.same(h:Grows w w'){F:CS}(hF:∀b x,F b x->b<w.heap.size):SameOn w w' F:=fun b x hf=>za8 (h.blk b (hF b x hf))
theorem Grows.sameOb(h:Grows w w'){F:CS}(hF:∀b x,F b x->b<w.heap.size):SameOb w w' F:=⟨fun b x hf=>za8 (h.blk b (hF b x hf)),fun b hf=>h.blk b (hF b 0 (hf 0))⟩
theorem Frame.refl(Wr:CS)(w:World):Frame Wr w w:=⟨Nat.le_refl _,fun _ _ _=>rfl,fun _ _ _ _=>⟨rfl,rfl⟩,rfl,rfl,rfl⟩
theorem Frame.grows(h:Frame Wr w0 w)(k:Grows w w'):Frame Wr w0 w' where
 size:=Nat.le_trans h.size k.size
 blk b hb hn:=(k.blk b (Nat.lt_of_lt_of_le hb h.size)).trans (h.blk b hb hn)
 cel b x hb hn:=by
  have h1:=h.cel b x hb hn
  have h2:=za8 (x:=x) (k.blk b (Nat.lt_of_lt_of_le hb h.size))
  exact⟨h2.1.trans h1.1,h2.2.trans h1.2⟩
 os:=k.os.trans h.os
 tape:=k.tape.trans h.tape
 output:=k.output.trans h.output
theorem Rel.grows(h:Rel tab Γ ρ tm w C kn Wr w0)(k:Grows w w'):Rel tab Γ ρ tm w' C kn Wr w0 where
 tms:=h.tms
 obs o g ob ho:=by
  obtain⟨h1,h2,h3⟩:=h.obs o g ob ho
  refine⟨h1,h2,fun hg=>?_⟩
  have hr:=h3 hg
  cases hv:ob.isView with
  |false=>exact hr.frame hv (k.sameOb fun b x hf=>hr.lt hv hf)
  | true =>
    cases ob with
    | view par pd i j et d =>
      exact hr.viewFrame (fun gp pet hp hgp=>(h.obs par gp _ hp).2.2 hgp) fun gp pet hp hgp=>k.same fun b x hf=>((h.obs par gp _ hp).2.2 hgp).lt rfl hf
    |row=>cases hv
    |box=>cases hv
    |map=>cases hv
 dis:=h.dis
 own:=h.own
 frm:=h.frm.grows k
theorem Rel.delOb(h:Rel tab Γ ρ tm w C kn Wr w0)(o:Nat):Rel tab (Γ.delOb o) ρ tm w C kn Wr w0:=by
 have key:∀o' g ob,(Γ.delOb o).obj o'=some (g,ob)->Γ.obj o'=some (g,ob):=by
  intro o' g ob h'
  by_cases e:o=o'
  ·subst e;rw[Gam.obj_delOb_self]at h';cases h'
  ·rw[Gam.obj_delOb_ne _ e]at h';exact h'
 exact {
  tms:=h.tms
  obs:=fun o' g ob h'=>by
   obtain⟨h1,h2,h3⟩:=h.obs o' g ob (key _ _ _ h')
   exact⟨h1,h2,fun hg=>(h3 hg).congrObj fun par pd i j et d _ gp pet hp hgp=>⟨gp,key _ _ _ hp,hgp⟩⟩
  dis:=fun a b g g' ob ob' ha hb=>h.dis a b g g' ob ob' (key _ _ _ ha) (key _ _ _ hb)
  own:=fun a g ob ha=>h.own a g ob (key _ _ _ ha)
  frm:=h.frm }
def Ctx.set (C:Ctx)(o:Nat)(A:Option Addr)(N K:Nat)(F:CS):Ctx :=
 { A:=fun x=>if x=o then A else C.A x,N:=fun x=>if x=o then N else C.N x,K:=fun x=>if x=o then K else C.K x,F:=fun x=>if x=o then F else C.F x }
theorem Ctx.set_ne{C:Ctx}{o o':Nat}{A:Option Addr}{N K:Nat}{F:CS}(h:o'≠o) :
 (C.set o A N K F).A o'=C.A o'/\(C.set o A N K F).N o'=C.N o'/\(C.set o A N K F).K o'=C.K o'/\(C.set o A N K F).F o'=C.F o':=by simp[Ctx.set,h]
theorem Ctx.set_self{C:Ctx}{o:Nat}{A:Option Addr}{N K:Nat}{F:CS} :
 (C.set o A N K F).A o=A/\(C.set o A N K F).N o=N/\(C.set o A N K F).K o=K/\(C.set o A N K F).F o=F:=by simp[Ctx.set]
def Kn.addO (kn:Kn)(o:Nat):Kn:={ kn with o:=fun x=>kn.o x\/x=o }
def Kn.addV (kn:Kn)(v:Nat):Kn:={ kn with v:=fun x=>kn.v x\/x=v }
theorem ObRel.mono{k k':Nat->Prop}{o:Nat}{ob:Obj}(h:ObRel tab C k ρ Γ w o ob)(hk:∀o,k o->k' o)(hko:k o)
 (hC:∀o,k o->C'.A o=C.A o/\C'.N o=C.N o/\C'.K o=C.K o) (e4:C'.F o=C.F o)
 (hp:∀par pd i j et d,ob = .view par pd i j et d->∀gp pet,Γ.obj par=some (gp,.row true pet pd)->k par):ObRel tab C' k' ρ Γ w o ob:=by
 obtain⟨e1,e2,e3⟩:=hC o hko
 cases ob with
 |row dp et d=>obtain⟨rows,h1,h2⟩:=h;exact⟨rows,h1,by rw[e1,e2,e3,e4];exact h2⟩
 | box rw cells =>
   obtain⟨b,base,h1,hF,hc,hz⟩:=h
   refine⟨b,base,⟨h1.1,e1.trans h1.2⟩,e4.trans hF,fun j l hl=>?_,hz⟩
   obtain⟨v,h3,h4⟩:=hc j l hl
   exact⟨v,h3,h4.mono hk hC⟩
 | map k v d =>
   obtain⟨r,es,cl,ents,hA,hF,hr,hd,hm⟩:=h
   exact⟨r,es,cl,ents,e1.trans hA,e4.trans hF,hr,hd,hm⟩
 | view par pd i j et d =>
   intro gp pet h1 h2
   obtain⟨m,b,base,rows,a1,a2,a3,a4,a5,a8,a9⟩:=h gp pet h1 h2
   have hkp:=hp _ _ _ _ _ _ rfl gp pet h1
   obtain⟨f1,f2,f3⟩:=hC par hkp
   refine⟨m,b,base,rows,a1,by rw[f2];exact a2,by rw[f1];exact a3,a4,?_,a8,by rw[e1,e2,e3];exact a9⟩
   rw[e1,e2,e3]
   refine a5.imp (fun⟨o0,c1,c2,c3,c4,c5⟩=>?_) id
   obtain⟨g1,g2,g3⟩:=hC o0 c2
   exact⟨o0,c1,hk _ c2,by rw[g1];exact c3,by rw[g2];exact c4,by rw[g3];exact c5⟩
theorem Rel.addOb(h:Rel tab Γ ρ tm w C kn Wr w0){o:Nat}(ho:¬kn.o o){g:Grd}{ob:Obj}{A:Option Addr}{N K:Nat}{F:CS}
 (hver:ob.verOk kn) (hob:holdsG ρ g->ObRel tab (C.set o A N K F) (kn.addO o).o ρ (Γ.setOb o (g,ob)) w o ob)
 (hd1:holdsG ρ g->ob.owned=true->∀o' g' ob',Γ.obj o'=some (g',ob')->holdsG ρ g'->ob'.isView=false->Disj F (C.F o'))
 (hd2:holdsG ρ g->ob.isView=false->∀o' g' ob',Γ.obj o'=some (g',ob')->holdsG ρ g'->ob'.owned=true->Disj (C.F o') F)
 (hw:holdsG ρ g->ob.owned=true->∀b x,F b x->Wr b x\/w0.heap.size<=b) :
 Rel tab (Γ.setOb o (g,ob)) ρ tm w (C.set o A N K F) (kn.addO o) Wr w0:=by
 have hne:∀o',kn.o o'->o'≠o:=fun o' h1 e=>ho (e▸h1)
 have hmono:∀o',kn.o o'->(kn.addO o).o o':=fun _=>.inl
 exact {
  tms:=fun t g' sv ht=>by
   obtain⟨h1,h2⟩:=h.tms t g' sv ht
   exact⟨fun hg=>(h1 hg).mono hmono fun o' ho'=>⟨(Ctx.set_ne (hne o' ho')).1,(Ctx.set_ne (hne o' ho')).2.1,(Ctx.set_ne (hne o' ho')).2.2.1⟩,h2⟩
  obs := fun o' g' ob' h' => by
   by_cases e:o=o'
   · subst e
     rw[Gam.obj_setOb_self]at h';cases h'
     exact⟨.inr rfl,hver.mono hmono (fun _=>id),hob⟩
   · rw[Gam.obj_setOb_ne _ _ e]at h'
     obtain⟨h1,h2,h3⟩:=h.obs o' g' ob' h'
     refine⟨.inl h1,h2.mono hmono (fun _=>id),fun hg=>?_⟩
     refine ((h3 hg).mono hmono h1 (fun o' ho'=>⟨(Ctx.set_ne (hne o' ho')).1,(Ctx.set_ne (hne o' ho')).2.1,(Ctx.set_ne (hne o' ho')).2.2.1⟩) (Ctx.set_ne (hne o' h1)).2.2.2 ?_).congrObj ?_
     ·intro par pd i j et d _ gp pet hp;exact (h.obs par gp _ hp).1
     · rintro par pd i j et d rfl gp pet hp hgp
       by_cases e2:o=par
       · subst e2
         rw[Gam.obj_setOb_self]at hp;cases hp
         exact absurd h2.1 ho
       ·rw[Gam.obj_setOb_ne _ _ e2]at hp;exact⟨gp,hp,hgp⟩
  dis:=fun a b ga gb oa ob' ha hb hga hgb hab hown hvw=>by
   by_cases ea:o=a
   · subst ea
     rw[Gam.obj_setOb_self]at ha;cases ha
     rw[Gam.obj_setOb_ne _ _ hab]at hb
     have hkb:=(h.obs b gb ob' hb).1
     rw[Ctx.set_self.2.2.2,(Ctx.set_ne (hne b hkb)).2.2.2]
     exact hd1 hga hown b gb ob' hb hgb hvw
   · rw[Gam.obj_setOb_ne _ _ ea]at ha
     have hka:=(h.obs a ga oa ha).1
     rw[(Ctx.set_ne (hne a hka)).2.2.2]
     by_cases eb:o=b
     · subst eb
       rw[Gam.obj_setOb_self]at hb;cases hb
       rw[Ctx.set_self.2.2.2]
       exact hd2 hgb hvw a ga oa ha hga hown
     · rw[Gam.obj_setOb_ne _ _ eb]at hb
       rw[(Ctx.set_ne (hne b (h.obs b gb ob' hb).1)).2.2.2]
       exact h.dis a b ga gb oa ob' ha hb hga hgb hab hown hvw
  own:=fun a ga oa ha hga hown b x hf=>by
   by_cases ea:o=a
   · subst ea
     rw[Gam.obj_setOb_self]at ha;cases ha
     rw[Ctx.set_self.2.2.2]at hf
     exact hw hga hown b x hf
   · rw[Gam.obj_setOb_ne _ _ ea]at ha
     rw[(Ctx.set_ne (hne a (h.obs a ga oa ha).1)).2.2.2]at hf
     exact h.own a ga oa ha hga hown b x hf
  frm:=h.frm }
structure Turned(F:CS)(w w':World):Prop where
 size:w.heap.size<=w'.heap.size
 blk:∀b,b<w.heap.size->(∀x,¬F b x)->w'.heap[b]? = w.heap[b]?
 cel:∀b x,b<w.heap.size->¬F b x->SameAt w w' b x
 os:w'.os=w.os
 tape:w'.tape=w.tape
 output:w'.output=w.output
theorem Grows.turned(h:Grows w w')(F:CS):Turned F w w':=⟨h.size,fun b hb _=>h.blk b hb,fun b _ hb _=>za8 (h.blk b hb),h.os,h.tape,h.output⟩
theorem Turned.trans{F:CS}{w'':World}(h:Turned F w w')(k:Turned F w' w''):Turned F w w'' where
 size:=Nat.le_trans h.size k.size
 blk b hb hn:=(k.blk b (Nat.lt_of_lt_of_le hb h.size) hn).trans (h.blk b hb hn)
 cel b x hb hn:=by
  have h1:=h.cel b x hb hn
  have h2:=k.cel b x (Nat.lt_of_lt_of_le hb h.size) hn
  exact⟨h2.1.trans h1.1,h2.2.trans h1.2⟩
 os:=k.os.trans h.os
 tape:=k.tape.trans h.tape
 output:=k.output.trans h.output
theorem Turned.same{F G:CS}(h:Turned F w w')(hd:Disj F G)(hG:∀b x,G b x->b<w.heap.size):SameOn w w' G :=
 fun b x hg=>h.cel b x (hG b x hg) fun hf=>hd b x hf hg
theorem Turned.sameOb{F G:CS}(h:Turned F w w')(hd:Disj F G)(hG:∀b x,G b x->b<w.heap.size):SameOb w w' G :=
 ⟨fun b x hg=>h.cel b x (hG b x hg) fun hf=>hd b x hf hg,fun b hg=>h.blk b (hG b 0 (hg 0)) fun x hf=>hd b x hf (hg x)⟩
theorem Frame.turned{F:CS}(h:Frame Wr w0 w)(k:Turned F w w')(hF:∀b x,F b x->Wr b x\/w0.heap.size<=b):Frame Wr w0 w' where
 size:=Nat.le_trans h.size k.size
 blk b hb hn:=(k.blk b (Nat.lt_of_lt_of_le hb h.size) fun x hf=>(hF b x hf).elim (hn x) (by omega)).trans (h.blk b hb hn)
 cel b x hb hn:=by
  have h1:=h.cel b x hb hn
  have h2:=k.cel b x (Nat.lt_of_lt_of_le hb h.size) fun hf=>(hF b x hf).elim hn (by omega)
  exact⟨h2.1.trans h1.1,h2.2.trans h1.2⟩
 os:=k.os.trans h.os
 tape:=k.tape.trans h.tape
 output:=k.output.trans h.output
def Kn.le (kn kn':Kn):Prop:=(∀o,kn.o o->kn'.o o)/\(∀x,kn.v x->kn'.v x)
theorem Kn.le.refl(kn:Kn):kn.le kn:=⟨fun _=>id,fun _=>id⟩
theorem Kn.le_addO(kn:Kn)(o:Nat):kn.le (kn.addO o):=⟨fun _=>.inl,fun _=>id⟩
theorem Kn.le_addV(kn:Kn)(x:Nat):kn.le (kn.addV x):=⟨fun _=>id,fun _=>.inl⟩
theorem Rel.know(h:Rel tab Γ ρ tm w C kn Wr w0)(hk:kn.le kn'):Rel tab Γ ρ tm w C kn' Wr w0 where
 tms t g sv ht:=⟨fun hg=>((h.tms t g sv ht).1 hg).mono hk.1 fun _ _=>⟨rfl,rfl,rfl⟩,(h.tms t g sv ht).2⟩
 obs o g ob ho:=by
  obtain⟨h1,h2,h3⟩:=h.obs o g ob ho
  exact⟨hk.1 o h1,h2.mono hk.1 hk.2,fun hg=>(h3 hg).mono hk.1 h1 (fun _ _=>⟨rfl,rfl,rfl⟩) rfl fun par pd i j et d _ gp pet hp=>(h.obs par gp _ hp).1⟩
 dis:=h.dis
 own:=h.own
 frm:=h.frm
theorem Rel.upd (h : Rel tab Γ ρ tm w C kn Wr w0) {o : Nat} {g : Grd} {ob ob' : Obj} (ho : Γ.obj o = some (g, ob)) (hg : holdsG ρ g) (hown : ob.owned = true)
 (ht:Turned (C.F o) w w') {F':CS} {kn':Kn} (hk:kn.le kn') (hver:ob'.verOk kn') (hnew:∀et x,ob' = .row true et (.var x)->¬kn.v x)
 (hob:ObRel tab (C.set o (C.A o) (C.N o) (C.K o) F') kn'.o ρ (Γ.setOb o (g,ob')) w' o ob')
 (hdj:∀o' g' ob'',o'≠o->Γ.obj o'=some (g',ob'')->holdsG ρ g'->ob''.isView=false->Disj F' (C.F o'))
 (hw:∀b x,F' b x->Wr b x\/w0.heap.size<=b) :
 Rel tab (Γ.setOb o (g,ob')) ρ tm w' (C.set o (C.A o) (C.N o) (C.K o) F') kn' Wr w0:=by
 have hANK:∀o',(C.set o (C.A o) (C.N o) (C.K o) F').A o'=C.A o'/\(C.set o (C.A o) (C.N o) (C.K o) F').N o'=C.N o'/\(C.set o (C.A o) (C.N o) (C.K o) F').K o'=C.K o':=by
  intro o'
  by_cases e:o'=o
  ·subst e;exact⟨Ctx.set_self.1,Ctx.set_self.2.1,Ctx.set_self.2.2.1⟩
  ·exact⟨(Ctx.set_ne e).1,(Ctx.set_ne e).2.1,(Ctx.set_ne e).2.2.1⟩
 have hvn:ob.isView=false:=by cases ob<;>simp_all[Obj.owned,Obj.isView]
 have hsame:∀o' g' ob'',o'≠o->Γ.obj o'=some (g',ob'')->holdsG ρ g'->ob''.isView=false->SameOb w w' (C.F o'):=by
  intro o' g' ob'' hne ho' hg' hv'
  exact ht.sameOb (h.dis o o' g g' ob ob'' ho ho' hg hg' (Ne.symm hne) hown hv') fun b x hf=>((h.obs o' g' ob'' ho').2.2 hg').lt hv' hf
 exact {
  tms:=fun t g' sv ht'=>by
   obtain⟨h1,h2⟩:=h.tms t g' sv ht'
   exact⟨fun hg'=>(h1 hg').mono hk.1 fun o' _=>hANK o',h2⟩
  obs := fun o' g' ob'' h' => by
   by_cases e:o=o'
   · subst e
     rw[Gam.obj_setOb_self]at h';cases h'
     exact⟨hk.1 _ (h.obs o g ob ho).1,hver,fun _=>hob⟩
   · rw[Gam.obj_setOb_ne _ _ e]at h'
     obtain⟨h1,h2,h3⟩:=h.obs o' g' ob'' h'
     refine⟨hk.1 _ h1,h2.mono hk.1 hk.2,fun hg'=>?_⟩
     have hr:=h3 hg'
     have hne:o'≠o:=Ne.symm e
     have hr' : ObRel tab C kn.o ρ (Γ.setOb o (g, ob')) w' o' ob'' := by
      cases hv:ob''.isView with
      |false=>exact (hr.frame hv (hsame o' g' ob'' hne h' hg' hv)).congrObj fun par pd i j et d he=>(by rw[he]at hv;cases hv)
      | true =>
        cases ob'' with
        |row=>cases hv
        |box=>cases hv
        |map=>cases hv
        | view par pd i j et d =>
          by_cases e2:o=par
          · subst e2
            intro gp pet hp _
            rw[Gam.obj_setOb_self]at hp;cases hp
            obtain⟨_,x,hx1,hx2⟩:=h2
            exact absurd hx2 (hnew pet x (by rw[hx1]))
          · refine ObRel.congrObj (Γ:=Γ) ?_ fun par' pd' i' j' et' d' he gp pet hp hgp=>?_
            ·exact hr.viewFrame (fun gp pet hp hgp=>(h.obs par gp _ hp).2.2 hgp) fun gp pet hp hgp=>(hsame par gp _ (Ne.symm e2) hp hgp rfl).1
            ·cases he;rw[Gam.obj_setOb_ne _ _ e2]at hp;exact⟨gp,hp,hgp⟩
     exact hr'.mono hk.1 h1 (fun x _=>hANK x) (Ctx.set_ne hne).2.2.2 fun par pd i j et d he gp pet hp=>(by
      rw[he]at h2;exact h2.1)
  dis:=fun a b ga gb oa ob'' ha hb hga hgb hab hoa hvb=>by
   by_cases ea:o=a
   · subst ea
     rw[Gam.obj_setOb_self]at ha;cases ha
     rw[Gam.obj_setOb_ne _ _ hab]at hb
     rw[Ctx.set_self.2.2.2,(Ctx.set_ne (Ne.symm hab)).2.2.2]
     exact hdj b gb ob'' (Ne.symm hab) hb hgb hvb
   · rw[Gam.obj_setOb_ne _ _ ea]at ha
     rw[(Ctx.set_ne (Ne.symm ea)).2.2.2]
     by_cases eb:o=b
     · subst eb
       rw[Ctx.set_self.2.2.2]
       exact (hdj a ga oa (Ne.symm ea) ha hga (by cases oa<;>simp_all[Obj.owned,Obj.isView])).symm
     · rw[Gam.obj_setOb_ne _ _ eb]at hb
       rw[(Ctx.set_ne (Ne.symm eb)).2.2.2]
       exact h.dis a b ga gb oa ob'' ha hb hga hgb hab hoa hvb
  own:=fun a ga oa ha hga hoa b x hf=>by
   by_cases ea:o=a
   · subst ea
     rw[Ctx.set_self.2.2.2]at hf
     exact hw b x hf
   · rw[Gam.obj_setOb_ne _ _ ea]at ha
     rw[(Ctx.set_ne (Ne.symm ea)).2.2.2]at hf
     exact h.own a ga oa ha hga hoa b x hf
  frm:=h.frm.turned ht (h.own o g ob ho hg hown) }
end Gp
namespace Gp
open Go
def tdChk:TD->TypeDesc->Bool
 |.int k,.int k'=>decide (k=k')
 |.bool,.bool=>true
 |.str,.string=>true
 |.slice e,.slice e'=>Nat.beq e e'
 |.array n e,.array n' e'=>Nat.beq n n'&&Nat.beq e e'
 |.struct fs,.struct gs=>fs==gs.toList.map fun f=>(f.offset,f.type)
 |.ptr e,.pointer e'=>Nat.beq e e'
 |.mp k v,.map k' v'=>Nat.beq k k'&&Nat.beq v v'
 |.other,_=>true
 |_,_=>false
def zeroIs:CK->Value->Bool
 |.int k,.int k' n=>decide (k=k')&&n==0
 |.bool,.bool b=>!b
 |.str,.string s=>s.data.size==0
 |.sl _,.slice none 0 0=>true
 |.ptr,.pointer none=>true
 |.fnc,.nilFunc=>true
 |.mp,.map none=>true
 |.other,_=>true
 |_,_=>false
def zerosAre:List CK->List Value->Bool
 |[],[]=>true
 |c::cs,v::vs=>zeroIs c v&&zerosAre cs vs
 |_,_=>false
def isAggD:TypeDesc->Bool
 |.struct _|.array _ _=>true
 |_=>false
def isAggV:Value->Bool
 |.agg _=>true
 |_=>false
def cksOf (tab:Tab)(ti:TI):Bool :=
 match ti.td with
 |.int k=>ti.cks == [.int k]
 |.bool=>ti.cks == [.bool]
 |.str=>ti.cks == [.str]
 |.slice e=>ti.cks == [.sl e]
 | .struct fs => fs.all fun (off, t) => match tab.get t with
   |some tj=>(ti.cks.drop off).take tj.size==tj.cks&&Nat.ble (off+tj.size) ti.size && !Nat.beq tj.size 0
   |none=>false
 | .array n e => match tab.get e with
   |some tj=>ti.cks==(List.replicate n tj.cks).flatten && !Nat.beq tj.size 0
   |none=>false
 |_=>true
def eqChk (P:Program)(t:TypeId):Bool:=match P.underlying t with
 |some (.struct fs)=>!P.stoodInHeld t&&(!P.eqGuardType P.depth t&&fs.toList.all fun f=>f.name != "_")
 |_=>false
def tiChk (P : Program) (tab : Tab) (t : Nat) (ti : TI) : Bool :=
 (match P.underlying t with
  |some d=>tdChk ti.td d&&isAggD d==ti.agg
  |none=>false) &&
 (match P.info? t with
  | some i => Nat.beq i.size ti.size && Nat.beq i.bytes ti.bytes &&
   (match i.zero with
    |some z=>zerosAre ti.cks z.cells.toList&&(isAggV z==ti.agg)
    |none=>false)
  |none=>false) &&
 Nat.beq ti.size ti.cks.length&&cksOf tab ti&&(!ti.eqs||eqChk P t)&&(!ti.eqa || !P.eqGuardType P.depth t)
def tabChkFrom(P:Program)(tab:Tab):Nat->List (Option TI)->Bool
 |_,[]=>true
 |t,none::r=>tabChkFrom P tab (t+1) r
 |t,some ti::r=>tiChk P tab t ti&&tabChkFrom P tab (t+1) r
def tabChk (P:Program)(tab:Tab):Bool:=tabChkFrom P tab 0 tab
theorem zbq {P:Program}{tab:Tab}:∀(l:List (Option TI)) (t:Nat),tabChkFrom P tab t l=true->∀i ti,l[i]? = some (some ti)->tiChk P tab (t+i) ti=true
 |[],_,_,i,ti,h=>by simp at h
 |none::r,t,h,0,ti,hi=>by simp at hi
 | none :: r, t, h, i + 1, ti, hi => by
   have:=zbq r (t+1) h i ti (by simpa using hi)
   rw[show t+(i+1)=t+1+i by omega];exact this
 | some x :: r, t, h, 0, ti, hi => by
   simp at hi;subst hi
   simp only[tabChkFrom,Bool.and_eq_true]at h
   exact h.1
 | some x :: r, t, h, i + 1, ti, hi => by
   simp only[tabChkFrom,Bool.and_eq_true]at h
   have:=zbq r (t+1) h.2 i ti (by simpa using hi)
   rw[show t+(i+1)=t+1+i by omega];exact this
structure TIOk(P:Program)(tab:Tab)(t:TypeId)(ti:TI):Prop where
 und:∃d,P.underlying t=some d/\tdChk ti.td d=true/\isAggD d=ti.agg
 inf:∃i z,P.info? t=some i/\i.size=ti.size/\i.bytes=ti.bytes/\i.zero=some z/\zerosAre ti.cks z.cells.toList=true/\isAggV z=ti.agg
 len:ti.size=ti.cks.length
 cks:cksOf tab ti=true
 eqc:ti.eqs=true->eqChk P t=true
 gda:ti.eqa=true->P.eqGuardType P.depth t=false
theorem TIOk.eqs{P:Program}{tab:Tab}{t:TypeId}{ti:TI}(h:TIOk P tab t ti)(he:ti.eqs=true):∃gs,P.underlying t=some (.struct gs)/\P.stoodInHeld t=false/\(gs.toList.all fun f=>f.name != "_")=true:=by
 have:=h.eqc he
 unfold eqChk at this
 split at this
 · rename_i fs hfs
   simp only[Bool.and_eq_true,Bool.not_eq_true']at this
   exact⟨fs,hfs,this.1,this.2.2⟩
 ·cases this
theorem TIOk.gd{P:Program}{tab:Tab}{t:TypeId}{ti:TI}(h:TIOk P tab t ti)(he:ti.eqs=true):P.eqGuardType P.depth t=false:=by
 have:=h.eqc he
 unfold eqChk at this
 split at this
 · simp only[Bool.and_eq_true,Bool.not_eq_true']at this
   exact this.2.1
 ·cases this
abbrev TabOk (P:Program)(tab:Tab):Prop:=∀t ti,tab.get t=some ti->TIOk P tab t ti
theorem zkp {P:Program}{tab:Tab}(h:tabChk P tab=true):TabOk P tab:=by
 intro t ti hti
 have hi:tab[t]? = some (some ti):=by
  unfold Tab.get at hti
  cases hx:tab[t]? with
  |none=>rw[hx]at hti;cases hti
  |some y=>rw[hx]at hti;simp at hti;rw[hti]
 have:=zbq tab 0 h t ti hi
 simp only[tiChk,Bool.and_eq_true,Nat.zero_add]at this
 obtain⟨⟨⟨⟨⟨h1,h2⟩,h3⟩,h4⟩,h5⟩,h6⟩:=this
 refine⟨?_,?_,by simpa using h3,h4,fun he=>by rw[he]at h5;simpa using h5,fun he=>by rw[he]at h6;simpa using h6⟩
 · split at h1
   · rename_i d hd
     simp only[Bool.and_eq_true,beq_iff_eq]at h1
     exact⟨d,hd,h1.1,h1.2⟩
   ·cases h1
 · split at h2
   · rename_i i hi2
     simp only[Bool.and_eq_true]at h2
     obtain⟨⟨h5,h6⟩,h7⟩:=h2
     split at h7
     · rename_i z hz
       simp only[Bool.and_eq_true,beq_iff_eq]at h7
       exact⟨i,z,hi2,by simpa using h5,by simpa using h6,hz,h7.1,h7.2⟩
     ·cases h7
   ·cases h2
theorem zaV:∀{cs:List CK} {vs:List Value},zerosAre cs vs=true->vs.length=cs.length/\∀(j:Nat) c,cs[j]? = some c->∃v,vs[j]? = some v/\zeroIs c v=true
 |[],[],_=>⟨rfl,fun j c h=>by simp at h⟩
 |[],_::_,h=>by cases h
 |_::_,[],h=>by cases h
 | c :: cs, v :: vs, h => by
   simp only[zerosAre,Bool.and_eq_true]at h
   obtain⟨h1,h2⟩:=zaV h.2
   refine⟨by simp[h1],fun j c' hj=>?_⟩
   cases j with
   |zero=>simp at hj;subst hj;exact⟨v,rfl,h.1⟩
   |succ j=>simpa using h2 j c' (by simpa using hj)
end Gp
