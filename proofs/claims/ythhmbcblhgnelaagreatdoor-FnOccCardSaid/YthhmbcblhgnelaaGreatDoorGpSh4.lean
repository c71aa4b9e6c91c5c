import Derived.Test.YthhmbcblhgnelaaGreatDoorGpCtl5
import Derived.Test.YthhmbcblhgnelaaGreatDoorShBase
set_option linter.unusedVariables false
set_option linter.unusedSimpArgs false
namespace Gp
open Go
inductive Ty where
 |int|bool|str|list (t:Ty)|unit|pair (a b:Ty)
 deriving Repr,Inhabited
@[reducible] def Ty.den:Ty->Type
 |.int=>Int|.bool=>Bool|.str=>List UInt8|.list t=>List t.den|.unit=>Unit|.pair a b=>a.den × b.den
def Ty.encB:(t:Ty)->t.den->T × List T
 |.int,n=>(.int n,[.int n])
 |.bool,b=>(.bool b,[.bool b])
 |.str,s=>(.str ⟨s.toArray⟩,[.str ⟨s.toArray⟩])
 |.list t,l=>(.list (l.map fun x=>(t.encB x).1),[.list (l.map fun x=>(t.encB x).1)])
 |.unit,_=>(.list [],[.list []])
 |.pair a b,v=>(.list ((a.encB v.1).1::(b.encB v.2).2),(a.encB v.1).1::(b.encB v.2).2)
def Ty.enc (t:Ty)(v:t.den):T:=(t.encB v).1
def Ty.encP (t:Ty)(v:t.den):List T:=(t.encB v).2
def Ty.isPair:Ty->Bool
 |.pair ..=>true
 |_=>false
theorem Ty.encP_one:∀(t:Ty) (v:t.den),t.isPair=false->t.encP v = [t.enc v]
 |.int,_,_|.bool,_,_|.str,_,_|.list _,_,_|.unit,_,_=>rfl
 |.pair ..,_,h=>by cases h
@[simp] theorem Ty.enc_int (n:Int):Ty.int.enc n = .int n:=rfl
@[simp] theorem Ty.enc_bool (b:Bool):Ty.bool.enc b = .bool b:=rfl
@[simp] theorem Ty.enc_str (s:List UInt8):Ty.str.enc s = .str ⟨s.toArray⟩:=rfl
@[simp] theorem Ty.enc_list (t:Ty) (l:List t.den):(Ty.list t).enc l = .list (l.map t.enc):=rfl
@[simp] theorem Ty.enc_unit (v:Unit):Ty.unit.enc v = .list []:=rfl
@[simp] theorem Ty.enc_pair (a b:Ty) (v:a.den × b.den):(Ty.pair a b).enc v = .list (a.enc v.1::b.encP v.2):=rfl
@[simp] theorem Ty.encP_pair (a b:Ty) (v:a.den × b.den):(Ty.pair a b).encP v=a.enc v.1::b.encP v.2:=rfl
def Ty.dflt:(t:Ty)->t.den
 |.int=>(0:Int)|.bool=>false|.str=>([]:List UInt8)|.list t=>([]:List t.den)|.unit=>()|.pair a b=>(a.dflt,b.dflt)
def Ty.eq?:(a b:Ty)->Option (PLift (a=b))
 |.int,.int=>some ⟨rfl⟩
 |.bool,.bool=>some ⟨rfl⟩
 |.str,.str=>some ⟨rfl⟩
 |.unit,.unit=>some ⟨rfl⟩
 | .list a, .list b => match a.eq? b with
   |some ⟨h⟩=>some ⟨congrArg Ty.list h⟩
   |none=>none
 | .pair a b, .pair c d => match a.eq? c with
   | some ⟨h⟩ => match b.eq? d with
     |some ⟨k⟩=>some ⟨by rw[h,k]⟩
     |none=>none
   |none=>none
 |_,_=>none
structure TV where
 t:Ty
 v:t.den
def TV.as (x:TV)(t:Ty):Option t.den:=match x.t.eq? t with
 |some ⟨h⟩=>some (h▸x.v)
 |none=>none
def TV.enc (x:TV):T:=x.t.enc x.v
theorem TV.as_eq{x:TV}{t:Ty}{v:t.den}(h:x.as t=some v):x = ⟨t,v⟩:=by
 unfold TV.as at h
 split at h
 · rename_i hh _
   obtain⟨t',v'⟩:=x
   cases hh
   cases h;rfl
 ·cases h
structure Slot where
 g:Grd
 x:TV
@[reducible] def Tup:List Ty->Type
 |[]=>Unit
 |[t]=>t.den
 |t::u::r=>t.den × Tup (u::r)
def unpG (g:Grd):(ts:List Ty)->Tup ts->List Slot
 |[],_=>[]
 |[t],a=>[⟨g,t,a⟩]
 |t::u::r,a=>⟨g,t,a.1⟩::unpG g (u::r) a.2
def unp:(ts:List Ty)->Tup ts->List Slot:=unpG []
def encs:(ts:List Ty)->Tup ts->List T
 |[],_=>[]
 |[t],a=>[t.enc a]
 |t::u::r,a=>t.enc a.1::encs (u::r) a.2
def tdflt:(ts:List Ty)->Tup ts
 |[]=>()
 |[t]=>t.dflt
 |t::u::r=>(t.dflt,tdflt (u::r))
def Slot.as (s:Slot)(t:Ty):Option t.den:=match s.g with
 |[]=>s.x.as t
 |_=>none
def packs:(ts:List Ty)->List Slot->Option (Tup ts)
 |[],[]=>some ()
 |[t],[s]=>s.as t
 | t :: u :: r, s :: ss => match s.as t with
   | some a => match packs (u :: r) ss with
     |some b=>some (a,b)
     |none=>none
   |none=>none
 |_,_=>none
def Exp.eqb:Exp->Exp->Bool
 |.var x,.var y=>Nat.beq x y
 |.int a,.int b=>decide (a=b)
 |.bool a,.bool b=>a==b
 |.str a,.str b=>decide (a=b)
 |.nil,.nil=>true
 |.un o a,.un o' a'=>decide (o=o')&&a.eqb a'
 |.bin o a b,.bin o' a' b'=>decide (o=o')&&(a.eqb a'&&b.eqb b')
 |.tri o a b c,.tri o' a' b' c'=>decide (o=o')&&(a.eqb a'&&(b.eqb b'&&c.eqb c'))
 |_,_=>false
theorem Exp.eqb_eq:∀{a b:Exp},a.eqb b=true->a=b:=by
 intro a
 induction a with
 |var x=>intro b h;cases b<;>simp_all[Exp.eqb]
 |int x=>intro b h;cases b<;>simp_all[Exp.eqb]
 |bool x=>intro b h;cases b<;>simp_all[Exp.eqb]
 |str x=>intro b h;cases b<;>simp_all[Exp.eqb]
 |nil=>intro b h;cases b<;>simp_all[Exp.eqb]
 |un o a ih=>intro b h;cases b<;>simp_all[Exp.eqb];exact ih h.2
 |bin o a b iha ihb=>intro b h;cases b<;>simp_all[Exp.eqb];exact⟨iha h.2.1,ihb h.2.2⟩
 |tri o a b c iha ihb ihc=>intro b h;cases b<;>simp_all[Exp.eqb];exact⟨iha h.2.1,ihb h.2.2.1,ihc h.2.2.2⟩
theorem Exp.eqb_refl:∀a:Exp,a.eqb a=true:=by
 intro a
 induction a with
 |var x=>simp[Exp.eqb]
 |int x=>simp[Exp.eqb]
 |bool x=>simp[Exp.eqb]
 |str x=>simp[Exp.eqb]
 |nil=>rfl
 |un o a ih=>simp[Exp.eqb,ih]
 |bin o a b iha ihb=>simp[Exp.eqb,iha,ihb]
 |tri o a b c iha ihb ihc=>simp[Exp.eqb,iha,ihb,ihc]
def subG (g G:Grd):Bool:=g.all fun x=>G.any fun y=>x.1.eqb y.1&&x.2==y.2
theorem zcl {ρ:Env}:∀{g:Grd},holdsG ρ g ↔ ∀p∈g,den ρ p.1 = .bool p.2
 |[]=>by simp[holdsG]
 |(e,b)::r=>by simp[holdsG,zcl (g:=r)]
theorem zfs {ρ:Env}{g G:Grd}(h:subG g G=true)(hG:holdsG ρ G):holdsG ρ g:=by
 rw[zcl]at hG ⊢
 intro p hp
 simp only[subG,List.all_eq_true,List.any_eq_true,Bool.and_eq_true,beq_iff_eq]at h
 obtain⟨q,hq,h1,h2⟩:=h p hp
 rw[Exp.eqb_eq h1,h2];exact hG q hq
abbrev Kno:=List (Grd × Exp)
def rngE (l n:Exp):Exp:=.bin .and (.bin (.cmp .leq) (.int 0) n) (.bin (.cmp .lss) n (.un .len l))
def srngE (l n:Exp):Exp:=.bin .and (.bin (.cmp .leq) (.int 0) n) (.bin (.cmp .lss) n (.un .slen l))
def knows (K:Kno)(G:Grd)(e:Exp):Bool:=K.any fun p=>e.eqb p.2&&subG p.1 G
def Kno.bnd (K:Kno)(n:Nat):Kno:=K.filter fun p=>p.2.bnd n&&p.1.all fun q=>q.1.bnd n
def hasHole:Exp->Bool
 |.un (.cell _) (.int _)=>true
 |.un _ a=>hasHole a
 |.bin _ a b=>hasHole a||hasHole b
 |.tri _ a b c=>hasHole a||(hasHole b||hasHole c)
 |_=>false
def defE (x:Nat)(d:Exp):Exp:=.bin .cons (.var x) d
def defOf (x:Nat):Kno->Option Exp
 |[]=>none
 |([],.bin .cons (.var y) d)::r=>if Nat.beq y x then some d else defOf x r
 |_::r=>defOf x r
def mkLen (a:Exp):Exp × List Exp:=match a with
 |.tri .setI l i _=>(.un .len l,[rngE l i])
 |a=>(.un .len a,[])
def mkIdx (a i:Exp):Exp × List Exp:=match a with
 |.tri .setI l k v=>if k.eqb i then (v,[rngE l i]) else (.bin .idx a i,[])
 |a=>(.bin .idx a i,[])
def mkSetI (a i v:Exp):Exp:=match a with
 |.tri .setI l k _=>if k.eqb i then .tri .setI l i v else .tri .setI a i v
 |a=>.tri .setI a i v
def mkSetC (j:Nat)(a v:Exp):Exp:=match a with
 |.bin (.setC k) r h=>if Nat.beq j k then .bin (.setC j) r v else if hasHole h then .bin (.setC k) (.bin (.setC j) r v) h else .bin (.setC j) a v
 |a=>.bin (.setC j) a v
def rsv (K:Kno):Exp->Exp × List Exp
 | .var x => match defOf x K with
   |some d=>(d,[])
   |none=>(.var x,[])
 |.int n=>(.int n,[])
 |.bool b=>(.bool b,[])
 |.str s=>(.str s,[])
 |.nil=>(.nil,[])
 | .un o a => match o with
   |.len=>((mkLen (rsv K a).1).1,(rsv K a).2++(mkLen (rsv K a).1).2)
   |o=>(.un o (rsv K a).1,(rsv K a).2)
 | .bin o a b => match o with
   |.idx=>((mkIdx (rsv K a).1 (rsv K b).1).1,(rsv K a).2++((rsv K b).2++(mkIdx (rsv K a).1 (rsv K b).1).2))
   |.setC j=>(mkSetC j (rsv K a).1 (rsv K b).1,(rsv K a).2++(rsv K b).2)
   |o=>(.bin o (rsv K a).1 (rsv K b).1,(rsv K a).2++(rsv K b).2)
 | .tri o a b c => match o with
   |.setI=>(mkSetI (rsv K a).1 (rsv K b).1 (rsv K c).1,(rsv K a).2++((rsv K b).2++(rsv K c).2))
   |o=>(.tri o (rsv K a).1 (rsv K b).1 (rsv K c).1,(rsv K a).2++((rsv K b).2++(rsv K c).2))
def usesDef (K:Kno):Exp->Bool
 |.var x=>(defOf x K).isSome
 |.un _ a=>usesDef K a
 |.bin _ a b=>usesDef K a||usesDef K b
 |.tri _ a b c=>usesDef K a||(usesDef K b||usesDef K c)
 |_=>false
def rs (K:Kno)(e:Exp):Exp × List Exp:=if usesDef K e then rsv K e else (e,[])
def cellV:Nat->(t:Ty)->t.den->Option TV
 |0,.pair a b,v=>some ⟨a,v.1⟩
 |j+1,.pair a (.pair b c),v=>cellV j (.pair b c) v.2
 |1,.pair a b,v=>some ⟨b,v.2⟩
 |_,_,_=>none
def cellT?:Nat->Ty->Option Ty
 |0,.pair a b=>some a
 |j+1,.pair a (.pair b c)=>cellT? j (.pair b c)
 |1,.pair a b=>some b
 |_,_=>none
def setV:Nat->(t:Ty)->t.den->TV->Option t.den
 | 0, .pair a b, v, x => match x.as a with
   |some w=>some (w,v.2)
   |none=>none
 | j + 1, .pair a (.pair b c), v, x => match setV j (.pair b c) v.2 x with
   |some w=>some (v.1,w)
   |none=>none
 | 1, .pair a b, v, x => match x.as b with
   |some w=>some (v.1,w)
   |none=>none
 |_,_,_,_=>none
def infU:U->TV->Option TV
 |.not,⟨.bool,b⟩=>some ⟨.bool,!b⟩
 |.conv k,⟨.int,n⟩=>some ⟨.int,k.wrap n⟩
 |.neg k,⟨.int,n⟩=>some ⟨.int,k.wrap (0-n)⟩
 |.len,⟨.list t,l⟩=>some ⟨.int,((l.length:Nat):Int)⟩
 |.slen,⟨.str,s⟩=>some ⟨.int,((s.length:Nat):Int)⟩
 |.cell j,⟨t,v⟩=>cellV j t v
 |.bytes,⟨.str,s⟩=>some ⟨.list .int,s.map fun b=>((b.toNat:Nat):Int)⟩
 |.unbytes,⟨.list .int,l⟩=>some ⟨.str,l.map fun n=>UInt8.ofNat n.toNat⟩
 |.isList,⟨.list _,_⟩=>some ⟨.bool,true⟩
 |.ascii,⟨.str,s⟩=>some ⟨.bool,Sh.ascii s⟩
 |.skeys,⟨.list (.pair .str v),l⟩=>if v.isPair then none else some ⟨.list .str,Sh.skeys l⟩
 |.skeysOk,⟨.list (.pair .str v),l⟩=>if v.isPair then none else some ⟨.bool,Sh.skeysOk l⟩
 |_,_=>none
def infAr (o:BinOp)(k:IntKind)(x y:Int):Option Int :=
 match o with
 |.add=>some (k.wrap (x+y))
 |.sub=>some (k.wrap (x-y))
 |.mul=>some (k.wrap (x*y))
 |.quo=>some (k.wrap (x.tdiv y))
 |.rem=>some (x.tmod y)
 |.and=>some (k.wrap (BitVec.ofInt k.bits x &&& BitVec.ofInt k.bits y).toNat)
 |.or=>some (k.wrap (BitVec.ofInt k.bits x ||| BitVec.ofInt k.bits y).toNat)
 |.xor=>some (k.wrap (BitVec.ofInt k.bits x ^^^ BitVec.ofInt k.bits y).toNat)
 |.andNot=>some (k.wrap (BitVec.ofInt k.bits x &&& ~~~ BitVec.ofInt k.bits y).toNat)
 |.shl=>some (k.wrap (x*2^(min y.toNat k.bits)))
 |.shr=>some (x.fdiv (2^(min y.toNat k.bits)))
 |_=>none
def infCmp (o:BinOp)(x y:Int):Option Bool :=
 match o with
 |.eql=>some (decide (x=y))
 |.neq=>some (!decide (x=y))
 |.lss=>some (decide (x<y))
 |.leq=>some (decide (x<=y))
 |.gtr=>some (decide (y<x))
 |.geq=>some (decide (y<=x))
 |_=>none
def infSc (o:BinOp)(x y:List UInt8):Option Bool :=
 match o with
 |.eql=>some (decide (x=y))
 |.neq=>some (!decide (x=y))
 |.lss=>some (Op.bytesLess x y)
 |.leq=>some (Op.bytesLess x y||decide (x=y))
 |.gtr=>some (!(Op.bytesLess x y||decide (x=y)))
 |.geq=>some (!Op.bytesLess x y)
 |_=>none
def mhasV:(k v:Ty)->List (k.den × v.den)->k.den->Option Bool
 |.int,v,l,x=>if v.isPair then none else some (Sh.mhas (K:=Int) l x)
 |.bool,v,l,x=>if v.isPair then none else some (Sh.mhas (K:=Bool) l x)
 |.str,v,l,x=>if v.isPair then none else some (Sh.mhas (K:=List UInt8) l x)
 |_,_,_,_=>none
def mgetV:(k v:Ty)->List (k.den × v.den)->k.den->v.den->Option v.den
 |.int,v,l,x,d=>if v.isPair then none else some (Sh.mget (K:=Int) l x d)
 |.bool,v,l,x,d=>if v.isPair then none else some (Sh.mget (K:=Bool) l x d)
 |.str,v,l,x,d=>if v.isPair then none else some (Sh.mget (K:=List UInt8) l x d)
 |_,_,_,_,_=>none
def msetV:(k v:Ty)->List (k.den × v.den)->k.den->v.den->Option (List (k.den × v.den))
 |.int,v,l,x,u=>if v.isPair then none else some (Sh.mset (K:=Int) l x u)
 |.bool,v,l,x,u=>if v.isPair then none else some (Sh.mset (K:=Bool) l x u)
 |.str,v,l,x,u=>if v.isPair then none else some (Sh.mset (K:=List UInt8) l x u)
 |_,_,_,_,_=>none
structure EV where
 x:TV
 ob:List Bool
def EV.as (e:EV)(t:Ty):Option t.den:=e.x.as t
inductive Md where
 |any|ty (t:Ty)|tail (t:Ty)
def infB (K:Kno)(G:Grd)(ea eb:Exp):B->TV->TV->Option EV
 | .ar o k, ⟨.int, x⟩, ⟨.int, y⟩ => match infAr o k x y with
   |some z=>some ⟨⟨.int,z⟩,[]⟩
   |none=>none
 | .cmp o, ⟨.int, x⟩, ⟨.int, y⟩ => match infCmp o x y with
   |some z=>some ⟨⟨.bool,z⟩,[]⟩
   |none=>none
 | .scmp o, ⟨.str, x⟩, ⟨.str, y⟩ => match infSc o x y with
   |some z=>some ⟨⟨.bool,z⟩,[]⟩
   |none=>none
 |.bcmp .eql,⟨.bool,x⟩,⟨.bool,y⟩=>some ⟨⟨.bool,x==y⟩,[]⟩
 |.bcmp .neq,⟨.bool,x⟩,⟨.bool,y⟩=>some ⟨⟨.bool,x != y⟩,[]⟩
 |.and,⟨.bool,x⟩,⟨.bool,y⟩=>some ⟨⟨.bool,x&&y⟩,[]⟩
 |.or,⟨.bool,x⟩,⟨.bool,y⟩=>some ⟨⟨.bool,x||y⟩,[]⟩
 |.plus,⟨.int,x⟩,⟨.int,y⟩=>some ⟨⟨.int,x+y⟩,[]⟩
 |.minus,⟨.int,x⟩,⟨.int,y⟩=>some ⟨⟨.int,x-y⟩,[]⟩
 |.max,⟨.int,x⟩,⟨.int,y⟩=>some ⟨⟨.int,max x y⟩,[]⟩
 |.min,⟨.int,x⟩,⟨.int,y⟩=>some ⟨⟨.int,min x y⟩,[]⟩
 |.scat,⟨.str,x⟩,⟨.str,y⟩=>some ⟨⟨.str,x++y⟩,[]⟩
 |.trim,⟨.str,x⟩,⟨.str,y⟩=>some ⟨⟨.str,Sh.trim x y⟩,[]⟩
 |.cmp3,⟨.str,x⟩,⟨.str,y⟩=>some ⟨⟨.int,Sh.cmp3 x y⟩,[]⟩
 |.idx,⟨.list t,l⟩,⟨.int,n⟩=>some ⟨⟨t,l.getD n.toNat t.dflt⟩,if knows K G (rngE ea eb) then [] else [decide (0<=n)&&decide (n<((l.length:Nat):Int))]⟩
 |.sidx,⟨.str,l⟩,⟨.int,n⟩=>some ⟨⟨.int,(((l.getD n.toNat 0).toNat:Nat):Int)⟩,if knows K G (srngE ea eb) then [] else [decide (0<=n)&&decide (n<((l.length:Nat):Int))]⟩
 | .setC j, ⟨t, v⟩, x => match setV j t v x with
   |some w=>some ⟨⟨t,w⟩,[]⟩
   |none=>none
 |_,_,_=>none
def ev (K : Kno) (ρ : List Slot) : Exp -> Grd -> Md -> Option EV
 | .var x, G, m => match m with
   |.tail _=>none
   | _ => match ρ[x]? with
     |some s=>if subG s.g G then some ⟨s.x,[]⟩ else none
     |none=>none
 | .int n, _, m => match m with
   |.tail _=>none
   |_=>some ⟨⟨.int,n⟩,[]⟩
 | .bool b, _, m => match m with
   |.tail _=>none
   |_=>some ⟨⟨.bool,b⟩,[]⟩
 | .str s, _, m => match m with
   |.tail _=>none
   |_=>some ⟨⟨.str,s⟩,[]⟩
 | .nil, _, m => match m with
   |.ty (.list t)=>some ⟨⟨.list t,[]⟩,[]⟩
   |.ty .unit=>some ⟨⟨.unit,()⟩,[]⟩
   |_=>none
 | .un o a, G, m => match m with
   |.tail _=>none
   | _ => match ev K ρ a G .any with
     | some x => match infU o x.x with
       |some y=>some ⟨y,x.ob⟩
       |none=>none
     |none=>none
 | .bin .cons a b, G, m => match m with
   |.any=>none
   | .ty (.list t) => match ev K ρ a G (.ty t) with
     | some x => match x.as t with
       | some u => match ev K ρ b G (.ty (.list t)) with
         | some y => match y.as (.list t) with
           |some w=>some ⟨⟨.list t,u::w⟩,x.ob++y.ob⟩
           |none=>none
         |none=>none
       |none=>none
     |none=>none
   | .ty (.pair t q) => match ev K ρ a G (.ty t) with
     | some x => match x.as t with
       | some u => match ev K ρ b G (.tail q) with
         | some y => match y.as q with
           |some w=>some ⟨⟨.pair t q,(u,w)⟩,x.ob++y.ob⟩
           |none=>none
         |none=>none
       |none=>none
     |none=>none
   | .tail (.pair t q) => match ev K ρ a G (.ty t) with
     | some x => match x.as t with
       | some u => match ev K ρ b G (.tail q) with
         | some y => match y.as q with
           |some w=>some ⟨⟨.pair t q,(u,w)⟩,x.ob++y.ob⟩
           |none=>none
         |none=>none
       |none=>none
     |none=>none
   | .tail t => match b with
     | .nil => match ev K ρ a G (.ty t) with
       | some x => match x.as t with
         |some u=>some ⟨⟨t,u⟩,x.ob⟩
         |none=>none
       |none=>none
     |_=>none
   |.ty _=>none
 | .bin .cat a b, G, m =>
   let go (t : Ty) : Option EV := match ev K ρ a G (.ty (.list t)) with
    | some x => match x.as (.list t) with
      | some u => match ev K ρ b G (.ty (.list t)) with
        | some y => match y.as (.list t) with
          |some w=>some ⟨⟨.list t,u++w⟩,x.ob++y.ob⟩
          |none=>none
        |none=>none
      |none=>none
    |none=>none
   match m with
   |.ty (.list t)=>go t
   | .any => match ev K ρ a G .any with
     |some ⟨⟨.list t,_⟩,_⟩=>go t
     | _ => match ev K ρ b G .any with
       |some ⟨⟨.list t,_⟩,_⟩=>go t
       |_=>none
   |_=>none
 | .bin .rep a b, G, m => match m with
   |.tail _=>none
   | .any => match ev K ρ a G (.ty .int) with
     | some x => match x.as .int with
       | some n => match ev K ρ b G .any with
         |some y=>some ⟨⟨.list y.x.t,List.replicate n.toNat y.x.v⟩,x.ob++y.ob⟩
         |none=>none
       |none=>none
     |none=>none
   | .ty (.list t) => match ev K ρ a G (.ty .int) with
     | some x => match x.as .int with
       | some n => match ev K ρ b G (.ty t) with
         | some y => match y.as t with
           |some w=>some ⟨⟨.list t,List.replicate n.toNat w⟩,x.ob++y.ob⟩
           |none=>none
         |none=>none
       |none=>none
     |none=>none
   |_=>none
 | .bin (.setC j) a b, G, m => match m with
   |.tail _=>none
   | _ => match ev K ρ a G .any with
     | some x => match cellT? j x.x.t with
       | some t => match ev K ρ b G (.ty t) with
         | some y => match setV j x.x.t x.x.v y.x with
           |some w=>some ⟨⟨x.x.t,w⟩,x.ob++y.ob⟩
           |none=>none
         |none=>none
       |none=>none
     |none=>none
 | .bin .mhas a b, G, m => match m with
   |.tail _=>none
   | _ => match ev K ρ a G .any with
     | some ⟨⟨.list (.pair tk tv), l⟩, o1⟩ => match ev K ρ b G (.ty tk) with
       | some y => match y.as tk with
         | some k => match mhasV tk tv l k with
           |some w=>some ⟨⟨.bool,w⟩,o1++y.ob⟩
           |none=>none
         |none=>none
       |none=>none
     |_=>none
 | .bin o a b, G, m => match m with
   |.tail _=>none
   | _ => match ev K ρ a G .any with
     | some x => match ev K ρ b G .any with
       | some y => match infB K G a b o x.x y.x with
         |some z=>some ⟨z.x,x.ob++(y.ob++z.ob)⟩
         |none=>none
       |none=>none
     |none=>none
 | .tri .ite c a b, G, m =>
   let go (t : Ty) : Option EV := match ev K ρ c G .any with
    | some x => match x.as .bool with
      | some cv => match ev K ρ a ((c, true) :: G) (.ty t) with
        | some y => match y.as t with
          | some u => match ev K ρ b ((c, false) :: G) (.ty t) with
            | some z => match z.as t with
              |some w=>some ⟨⟨t,if cv then u else w⟩,x.ob++(y.ob.map (fun q=>!cv||q)++z.ob.map (fun q=>cv||q))⟩
              |none=>none
            |none=>none
          |none=>none
        |none=>none
      |none=>none
    |none=>none
   match m with
   |.tail _=>none
   |.ty t=>go t
   | .any => match ev K ρ a ((c, true) :: G) .any with
     |some x=>go x.x.t
     | none => match ev K ρ b ((c, false) :: G) .any with
       |some x=>go x.x.t
       |none=>none
 | .tri .setI a b c, G, m => match m with
   |.tail _=>none
   | _ => match ev K ρ a G .any with
     | some ⟨⟨.list t, l⟩, o1⟩ => match ev K ρ b G .any with
       | some y => match y.as .int with
         | some n => match ev K ρ c G (.ty t) with
           | some z => match z.as t with
             |some w=>some ⟨⟨.list t,l.set n.toNat w⟩,o1++(y.ob++(z.ob++if knows K G (rngE a b) then [] else [decide (0<=n)]))⟩
             |none=>none
           |none=>none
         |none=>none
       |none=>none
     |_=>none
 | .tri .ext a b c, G, m => match m with
   |.tail _=>none
   | _ => match ev K ρ a G m with
     | some ⟨⟨.list t, l⟩, o1⟩ => match ev K ρ b G .any with
       | some y => match y.as .int with
         | some n => match ev K ρ c G .any with
           | some z => match z.as .int with
             |some k=>some ⟨⟨.list t,(l.take k.toNat).drop n.toNat⟩,o1++(y.ob++z.ob)⟩
             |none=>none
           |none=>none
         |none=>none
       |none=>none
     |_=>none
 | .tri .sext a b c, G, m => match m with
   |.tail _=>none
   | _ => match ev K ρ a G .any with
     | some ⟨⟨.str, l⟩, o1⟩ => match ev K ρ b G .any with
       | some y => match y.as .int with
         | some n => match ev K ρ c G .any with
           | some z => match z.as .int with
             |some k=>some ⟨⟨.str,(l.take k.toNat).drop n.toNat⟩,o1++(y.ob++z.ob)⟩
             |none=>none
           |none=>none
         |none=>none
       |none=>none
     |_=>none
 | .tri .mget a b c, G, m => match m with
   |.tail _=>none
   | _ => match ev K ρ a G .any with
     | some ⟨⟨.list (.pair tk tv), l⟩, o1⟩ => match ev K ρ b G (.ty tk) with
       | some y => match y.as tk with
         | some k => match ev K ρ c G (.ty tv) with
           | some z => match z.as tv with
             | some d => match mgetV tk tv l k d with
               |some w=>some ⟨⟨tv,w⟩,o1++(y.ob++z.ob)⟩
               |none=>none
             |none=>none
           |none=>none
         |none=>none
       |none=>none
     |_=>none
 | .tri .mset a b c, G, m => match m with
   |.tail _=>none
   | _ => match ev K ρ a G m with
     | some ⟨⟨.list (.pair tk tv), l⟩, o1⟩ => match ev K ρ b G (.ty tk) with
       | some y => match y.as tk with
         | some k => match ev K ρ c G (.ty tv) with
           | some z => match z.as tv with
             | some d => match msetV tk tv l k d with
               |some w=>some ⟨⟨.list (.pair tk tv),w⟩,o1++(y.ob++z.ob)⟩
               |none=>none
             |none=>none
           |none=>none
         |none=>none
       |none=>none
     |_=>none
 |.tri (.punch _) _ _ _,_,_=>none
end Gp
namespace Gp
open Go
theorem zhi:∀{j:Nat} {t:Ty} {v:t.den} {y:TV},cellV j t v=some y->∃a b,t = .pair a b/\(t.encP v)[j]? = some y.enc:=by
 intro j t
 induction t generalizing j with
 | pair a b iha ihb =>
   intro v y h
   refine⟨a,b,rfl,?_⟩
   cases j with
   |zero=>simp only[cellV,Option.some.injEq]at h;subst h;rfl
   | succ j =>
     cases b with
     | pair b c =>
       simp only[cellV]at h
       obtain⟨_,_,_,h2⟩:=ihb h
       simpa using h2
     | int => cases j with
       |zero=>(have h:some (⟨_,v.2⟩:TV)=some y:=h);cases h;rfl
       |succ j=>(have h:(none:Option TV)=some y:=h);cases h
     | bool => cases j with
       |zero=>(have h:some (⟨_,v.2⟩:TV)=some y:=h);cases h;rfl
       |succ j=>(have h:(none:Option TV)=some y:=h);cases h
     | str => cases j with
       |zero=>(have h:some (⟨_,v.2⟩:TV)=some y:=h);cases h;rfl
       |succ j=>(have h:(none:Option TV)=some y:=h);cases h
     | list t => cases j with
       |zero=>(have h:some (⟨_,v.2⟩:TV)=some y:=h);cases h;rfl
       |succ j=>(have h:(none:Option TV)=some y:=h);cases h
     | unit => cases j with
       |zero=>(have h:some (⟨_,v.2⟩:TV)=some y:=h);cases h;rfl
       |succ j=>(have h:(none:Option TV)=some y:=h);cases h
 |int=>intro v y h;rcases j with _|_|j<;>simp[cellV]at h
 |bool=>intro v y h;rcases j with _|_|j<;>simp[cellV]at h
 |str=>intro v y h;rcases j with _|_|j<;>simp[cellV]at h
 |list t _=>intro v y h;rcases j with _|_|j<;>simp[cellV]at h
 |unit=>intro v y h;rcases j with _|_|j<;>simp[cellV]at h
theorem zka {j:Nat}{t:Ty}{v:t.den}{y:TV}(h:cellV j t v=some y):T.cell j (t.enc v)=y.enc:=by
 obtain⟨a,b,rfl,h2⟩:=zhi h
 simp only[Ty.encP_pair]at h2
 simp only[Ty.enc_pair,T.cell,List.getD_eq_getElem?_getD,h2];rfl
theorem ziI : ∀ {j : Nat} {t : Ty} {v w : t.den} {x : TV}, setV j t v x = some w -> ∃ a b, t = .pair a b /\ (t.encP v).set j x.enc = t.encP w := by
 intro j t
 induction t generalizing j with
 | pair a b iha ihb =>
   intro v w x h
   refine⟨a,b,rfl,?_⟩
   cases j with
   | zero =>
     simp only[setV]at h
     split at h
     · rename_i u hu
       have:=TV.as_eq hu
       cases h;subst this;rfl
     ·cases h
   | succ j =>
     have last:∀(hb:b.isPair=false) (h:(match x.as b with|some w=>some (v.1,w)|none=>none)=some w) (hj:j=0),((Ty.pair a b).encP v).set (j+1) x.enc=(Ty.pair a b).encP w:=by
      intro hb h' hj
      subst hj
      revert h'
      cases hu:x.as b with
      |none=>intro h';cases h'
      | some u =>
        intro h'
        have:=TV.as_eq hu
        cases h';subst this
        simp only[Ty.encP_pair,Ty.encP_one b _ hb,List.set_cons_succ,List.set_cons_zero];rfl
     cases b with
     | pair b c =>
       simp only[setV]at h
       split at h
       · rename_i u hu
         cases h
         obtain⟨_,_,_,h2⟩:=ihb hu
         simpa using h2
       ·cases h
     | int => cases j with
       |zero=>exact last rfl h rfl
       |succ j=>(have h:(none:Option _)=some w:=h);cases h
     | bool => cases j with
       |zero=>exact last rfl h rfl
       |succ j=>(have h:(none:Option _)=some w:=h);cases h
     | str => cases j with
       |zero=>exact last rfl h rfl
       |succ j=>(have h:(none:Option _)=some w:=h);cases h
     | list t => cases j with
       |zero=>exact last rfl h rfl
       |succ j=>(have h:(none:Option _)=some w:=h);cases h
     | unit => cases j with
       |zero=>exact last rfl h rfl
       |succ j=>(have h:(none:Option _)=some w:=h);cases h
 |int=>intro v w x h;rcases j with _|_|j<;>simp[setV]at h
 |bool=>intro v w x h;rcases j with _|_|j<;>simp[setV]at h
 |str=>intro v w x h;rcases j with _|_|j<;>simp[setV]at h
 |list t _=>intro v w x h;rcases j with _|_|j<;>simp[setV]at h
 |unit=>intro v w x h;rcases j with _|_|j<;>simp[setV]at h
theorem zhK {j:Nat}{t:Ty}{v w:t.den}{x:TV}(h:setV j t v x=some w):T.setC j (t.enc v) x.enc=t.enc w:=by
 obtain⟨a,b,rfl,h2⟩:=ziI h
 simp only[Ty.encP_pair]at h2
 simp only[Ty.enc_pair,T.setC,h2]
theorem zkK (l:List UInt8):∀(n i:Nat) (r:List UInt8),n=l.length-i->ByteArray.toList.loop ⟨l.toArray⟩ i r=r.reverse++l.drop i:=by
 intro n
 induction n with
 | zero =>
   intro i r h
   unfold ByteArray.toList.loop
   have:¬i<(ByteArray.mk l.toArray).size:=by simp[ByteArray.size];omega
   rw[if_neg this,List.drop_eq_nil_of_le (by omega)];simp
 | succ n ih =>
   intro i r h
   unfold ByteArray.toList.loop
   have hlt:i<l.length:=by omega
   have:i<(ByteArray.mk l.toArray).size:=by simp[ByteArray.size];omega
   rw[if_pos this,ih (i+1) _ (by omega),List.drop_eq_getElem_cons hlt]
   simp[ByteArray.get!,hlt]
theorem zle (l:List UInt8):(ByteArray.mk l.toArray).toList=l:=by
 unfold ByteArray.toList;rw[zkK l _ 0 [] rfl];simp
theorem ziZ (a b:List UInt8):(ByteArray.mk a.toArray)++(ByteArray.mk b.toArray) = ⟨(a++b).toArray⟩:=by
 apply ByteArray.ext;simp[ByteArray.data_append]
theorem zi6 (l:List UInt8)(a b:Nat):(ByteArray.mk l.toArray).extract a b = ⟨((l.take b).drop a).toArray⟩:=by
 apply ByteArray.ext
 simp[ByteArray.data_extract,List.extract_eq_take_drop,List.drop_take]
theorem zg1:∀l,T.nodupB l=Sh.nodupB l
 |[]=>rfl
 |x::r=>by unfold T.nodupB Sh.nodupB;rw[zg1 r]
theorem zj6 {v:Ty}(hv:v.isPair=false)(p:Ty.str.den × v.den):T.entKey ((Ty.pair .str v).enc p)=p.1/\T.isEnt ((Ty.pair .str v).enc p)=Nat.ble (List.length (α:=UInt8) p.1) 1000000:=by
 rw[Ty.enc_pair,Ty.encP_one v p.2 hv]
 constructor
 ·simp only[Ty.enc_str,T.entKey]
 ·simp only[Ty.enc_str,T.isEnt]
theorem zg7 {v:Ty}(hv:v.isPair=false)(l:List (Ty.str.den × v.den)):T.skeys (.list (l.map (Ty.pair .str v).enc)) = .list ((Sh.skeys l).map Ty.str.enc)/\T.skeysOk (.list (l.map (Ty.pair .str v).enc)) = .bool (Sh.skeysOk l):=by
 have e1:(l.map (Ty.pair .str v).enc).map T.entKey=l.map fun p=>p.1:=by
  rw[List.map_map]
  exact List.map_congr_left fun p _=>(zj6 hv p).1
 have e2:((l.map (Ty.pair .str v).enc).all T.isEnt)=l.all fun p=>Nat.ble (List.length (α:=UInt8) p.1) 1000000:=by
  rw[List.all_map]
  congr 1
  funext p
  exact (zj6 hv p).2
 constructor
 · unfold T.skeys Sh.skeys
   simp only[e1]
   rfl
 · unfold T.skeysOk Sh.skeysOk
   simp only[e1,e2,List.length_map,zg1]
theorem ziJ {o:U}{x y:TV}(h:infU o x=some y):o.den x.enc=y.enc:=by
 unfold infU at h
 split at h<;>try cases h
 all_goals first
  |rfl
  |(simp[U.den,TV.enc,T.len,T.slen,T.bytes,T.unbytes,T.isList,ByteArray.size];done)
  |skip
 ·exact zka h
 · simp only[U.den,TV.enc,Ty.enc_list,T.unbytes,Ty.enc_str,List.map_map]
   congr 1
 · rename_i v l
   cases hv:v.isPair with
   |true=>rw[hv]at h;cases h
   |false=>rw[hv]at h;cases h;exact (zg7 hv l).1
 · rename_i v l
   cases hv:v.isPair with
   |true=>rw[hv]at h;cases h
   |false=>rw[hv]at h;cases h;exact (zg7 hv l).2
theorem zhE {o:BinOp}{k:IntKind}{x y z:Int}(h:infAr o k x y=some z):T.arI o k x y = .int z:=by
 cases o<;>simp only[infAr]at h<;>first|(cases h;rfl)|(cases h;done)
theorem zgU {o:BinOp}{x y:Int}{z:Bool}(h:infCmp o x y=some z):T.cmpI o x y = .bool z:=by
 have hb:(x==y)=decide (x=y):=by
  rw[Bool.eq_iff_iff];simp
 cases o<;>simp only[infCmp]at h<;>first|(cases h;simp only[T.cmpI,T.bool.injEq,bne,hb,gt_iff_lt,ge_iff_le];done)|(cases h;done)
theorem zhF {o:BinOp}{x y:List UInt8}{z:Bool}(h:infSc o x y=some z):T.scmpS o ⟨x.toArray⟩ ⟨y.toArray⟩ = .bool z:=by
 have hb:(x==y)=decide (x=y):=by
  rw[Bool.eq_iff_iff];simp
 cases o<;>simp only[infSc]at h<;>first|(cases h;simp only[T.scmpS,zle,hb];done)|(cases h;done)
theorem zhN {ρ:Env}{l:List T}{ea eb:Exp}{n:Int}(hl:den ρ ea = .list l)(hn:den ρ eb = .int n)(h:den ρ (rngE ea eb) = .bool true):0<=n/\n<l.length:=by
 simp only[rngE,den,hl,hn,B.den,U.den,T.cmp,T.cmpI,T.len,T.band,T.bool.injEq,Bool.and_eq_true,decide_eq_true_eq]at h
 exact h
theorem ziX {ρ:Env}{l:ByteArray}{ea eb:Exp}{n:Int}(hl:den ρ ea = .str l)(hn:den ρ eb = .int n)(h:den ρ (srngE ea eb) = .bool true):0<=n/\n<l.size:=by
 simp only[srngE,den,hl,hn,B.den,U.den,T.cmp,T.cmpI,T.slen,T.band,T.bool.injEq,Bool.and_eq_true,decide_eq_true_eq]at h
 exact h
def factOk (ρ:Env)(e:Exp):Prop:=match e with
 |.bin .cons (.var x) d=>ρ x=den ρ d
 |e=>den ρ e = .bool true
def KnoOk (ρ:Env)(K:Kno):Prop:=∀p∈K,holdsG ρ p.1->factOk ρ p.2
theorem zja {ρ:Env}{e:Exp}(h:den ρ e = .bool true):factOk ρ e:=by
 unfold factOk
 split
 · simp only[den,B.den]at h
   generalize ρ _=a at h
   generalize den ρ _=b at h
   cases b<;>simp[T.cons]at h
 ·exact h
theorem ziH {ρ:Env}{a b:Exp}(h:factOk ρ (.bin .and a b)):den ρ (.bin .and a b) = .bool true:=h
theorem zcO {ρ:Env}{K:Kno}{G:Grd}{a b:Exp}(hK:KnoOk ρ K)(h:knows K G (.bin .and a b)=true)(hG:holdsG ρ G):den ρ (.bin .and a b) = .bool true:=by
 simp only[knows,List.any_eq_true,Bool.and_eq_true]at h
 obtain⟨p,hp,h1,h2⟩:=h
 have:=hK p hp (zfs h2 hG)
 rw[<- Exp.eqb_eq h1]at this
 exact ziH this
theorem zkZ {t:Ty}{l:List t.den}{n:Int}(h0:0<=n)(h1:n<l.length):T.idx (.list (l.map t.enc)) (.int n)=t.enc (l.getD n.toNat t.dflt):=by
 simp only[T.idx,if_neg (show ¬n<0 by omega)]
 have:n.toNat<l.length:=by omega
 simp[List.getD_eq_getElem?_getD,this]
theorem zjY {l:List UInt8}{n:Int}(h0:0<=n)(h1:n<l.length):T.sidx (.str ⟨l.toArray⟩) (.int n) = .int (((l.getD n.toNat 0).toNat:Nat):Int):=by
 have hn:n.toNat<l.length:=by omega
 simp only[T.sidx,if_neg (show ¬n<0 by omega)]
 simp[hn,List.getD_eq_getElem?_getD]
theorem zky {t:Ty}{l:List t.den}{n:Int}{w:t.den}(h0:0<=n):T.setI (.list (l.map t.enc)) (.int n) (t.enc w) = .list ((l.set n.toNat w).map t.enc):=by
 simp only[T.setI,if_neg (show ¬n<0 by omega),List.map_set]
theorem ziC {K:Kno}{G:Grd}{ρ:Env}{ea eb:Exp}{o:B}{x y:TV}{z:EV}(hK:KnoOk ρ K)(hG:holdsG ρ G)(ha:den ρ ea=x.enc)(hb:den ρ eb=y.enc)
 (h:infB K G ea eb o x y=some z) (hob:∀b∈z.ob,b=true):o.den x.enc y.enc=z.x.enc:=by
 unfold infB at h
 split at h
 · split at h
   ·rename_i w hw;cases h;exact zhE hw
   ·cases h
 · split at h
   ·rename_i w hw;cases h;exact zgU hw
   ·cases h
 · split at h
   ·rename_i w hw;cases h;exact zhF hw
   ·cases h
 ·cases h;rfl
 ·cases h;rfl
 ·cases h;rfl
 ·cases h;rfl
 ·cases h;rfl
 ·cases h;rfl
 · cases h
   simp only[B.den,TV.enc,Ty.enc_int,T.imax];congr 1;omega
 · cases h
   simp only[B.den,TV.enc,Ty.enc_int,T.imin];congr 1;omega
 · cases h
   simp only[B.den,TV.enc,Ty.enc_str,T.scat,ziZ]
 ·cases h;rfl
 ·cases h;rfl
 · rename_i t l n
   cases h
   have hr:0<=n/\n<(l.map t.enc).length:=by
    split at hob
    · rename_i hk
      exact zhN ha hb (zcO hK hk hG)
    · have:=hob _ (List.mem_singleton.2 rfl)
      simpa using this
   exact zkZ hr.1 (by simpa using hr.2)
 · rename_i l n
   cases h
   have hr:0<=n/\n<((ByteArray.mk l.toArray).size:Int):=by
    split at hob
    · rename_i hk
      exact ziX ha hb (zcO hK hk hG)
    · have:=hob _ (List.mem_singleton.2 rfl)
      simpa[ByteArray.size]using this
   exact zjY hr.1 (by simpa[ByteArray.size]using hr.2)
 · split at h
   ·rename_i w hw;cases h;exact zhK hw
   ·cases h
 ·cases h
theorem zbr {K V:Type}[DecidableEq K]{enc:K->T}{encv:V->T}{f:K × V->T}(hk:∀x y,T.keyEq (enc x) (enc y)=decide (y=x))(hf:∀p,f p = .list [enc p.1,encv p.2])(k:K) :
 ∀l:List (K × V),(T.mfind (enc k) (l.map f)).isSome=Sh.mhas l k/\∀d,(T.mfind (enc k) (l.map f)).getD (encv d)=encv (Sh.mget l k d)
 |[]=>⟨rfl,fun _=>rfl⟩
 | p :: l => by
   obtain⟨h1,h2⟩:=zbr hk hf k l
   simp only[List.map_cons,hf,T.mfind,hk,Sh.mhas,Sh.mget]
   by_cases e:p.1=k
   ·simp[e]
   · simp only[e,decide_false,Bool.false_eq_true,if_false,Bool.false_or]
     exact⟨h1,h2⟩
theorem zem {K V:Type}[DecidableEq K]{enc:K->T}{encv:V->T}{f:K × V->T}(hk:∀x y,T.keyEq (enc x) (enc y)=decide (y=x))(hf:∀p,f p = .list [enc p.1,encv p.2])(k:K)(v:V) :
 ∀l:List (K × V),T.mput (enc k) (encv v) (l.map f)=(Sh.mset l k v).map f
 |[]=>by simp[T.mput,Sh.mset,hf]
 | p :: l => by
   have ih:=zem hk hf k v l
   simp only[List.map_cons,T.mput,Sh.mset]
   rw[hf p]
   simp only[hk]
   by_cases e:p.1=k
   ·simp[e,hf]
   ·simp only[e,decide_false,Bool.false_eq_true,if_false,List.map_cons,ih,hf p]
theorem zh0 (x y:Int):T.keyEq (Ty.int.enc x) (Ty.int.enc y)=decide (y=x):=by
 show (x==y)=_
 by_cases e:y=x
 ·rw[decide_eq_true e,e];exact beq_self_eq_true _
 ·rw[decide_eq_false e];exact beq_eq_false_iff_ne.2 fun h=>e h.symm
theorem zfG (x y:Bool):T.keyEq (Ty.bool.enc x) (Ty.bool.enc y)=decide (y=x):=by
 show (x==y)=_
 by_cases e:y=x
 ·rw[decide_eq_true e,e];exact beq_self_eq_true _
 ·rw[decide_eq_false e];exact beq_eq_false_iff_ne.2 fun h=>e h.symm
theorem zhq (x y:List UInt8):T.keyEq (Ty.str.enc x) (Ty.str.enc y)=decide (y=x):=by
 show (x.toArray==y.toArray)=_
 by_cases e:y=x
 ·rw[decide_eq_true e,e];exact beq_self_eq_true _
 ·rw[decide_eq_false e];exact beq_eq_false_iff_ne.2 fun h=>e (by simpa using h.symm)
theorem zbh {k v:Ty}(hv:v.isPair=false)(p:k.den × v.den):(Ty.pair k v).enc p = .list [k.enc p.1,v.enc p.2]:=by
 rw[Ty.enc_pair,Ty.encP_one v _ hv]
theorem ziS {k v:Ty}{l:List (k.den × v.den)}{x:k.den}{b:Bool}(h:mhasV k v l x=some b):T.mhas (.list (l.map (Ty.pair k v).enc)) (k.enc x) = .bool b:=by
 cases k with
 | int =>
   simp only[mhasV]at h
   split at h
   ·cases h
   · rename_i hv;cases h
     simp only[T.mhas,(zbr (enc:=Ty.int.enc) zh0 (zbh (by simpa using hv)) x l).1]
 | bool =>
   simp only[mhasV]at h
   split at h
   ·cases h
   · rename_i hv;cases h
     simp only[T.mhas,(zbr (enc:=Ty.bool.enc) zfG (zbh (by simpa using hv)) x l).1]
 | str =>
   simp only[mhasV]at h
   split at h
   ·cases h
   · rename_i hv;cases h
     simp only[T.mhas,(zbr (enc:=Ty.str.enc) zhq (zbh (by simpa using hv)) x l).1]
 |pair a b=>simp[mhasV]at h
 |list a=>simp[mhasV]at h
 |unit=>simp[mhasV]at h
theorem zjP {k v:Ty}{l:List (k.den × v.den)}{x:k.den}{d w:v.den}(h:mgetV k v l x d=some w):T.mget (.list (l.map (Ty.pair k v).enc)) (k.enc x) (v.enc d)=v.enc w:=by
 cases k with
 | int =>
   simp only[mgetV]at h
   split at h
   ·cases h
   · rename_i hv;cases h
     exact (zbr (enc:=Ty.int.enc) zh0 (zbh (by simpa using hv)) x l).2 d
 | bool =>
   simp only[mgetV]at h
   split at h
   ·cases h
   · rename_i hv;cases h
     exact (zbr (enc:=Ty.bool.enc) zfG (zbh (by simpa using hv)) x l).2 d
 | str =>
   simp only[mgetV]at h
   split at h
   ·cases h
   · rename_i hv;cases h
     exact (zbr (enc:=Ty.str.enc) zhq (zbh (by simpa using hv)) x l).2 d
 |pair a b=>simp[mgetV]at h
 |list a=>simp[mgetV]at h
 |unit=>simp[mgetV]at h
theorem zjg {k v:Ty}{l:List (k.den × v.den)}{x:k.den}{d:v.den}{w:List (k.den × v.den)}(h:msetV k v l x d=some w) :
 T.mset (.list (l.map (Ty.pair k v).enc)) (k.enc x) (v.enc d) = .list (w.map (Ty.pair k v).enc):=by
 cases k with
 | int =>
   simp only[msetV]at h
   split at h
   ·cases h
   · rename_i hv;cases h
     simp only[T.mset,zem (enc:=Ty.int.enc) zh0 (zbh (by simpa using hv)) x d l]
 | bool =>
   simp only[msetV]at h
   split at h
   ·cases h
   · rename_i hv;cases h
     simp only[T.mset,zem (enc:=Ty.bool.enc) zfG (zbh (by simpa using hv)) x d l]
 | str =>
   simp only[msetV]at h
   split at h
   ·cases h
   · rename_i hv;cases h
     simp only[T.mset,zem (enc:=Ty.str.enc) zhq (zbh (by simpa using hv)) x d l]
 |pair a b=>simp[msetV]at h
 |list a=>simp[msetV]at h
 |unit=>simp[msetV]at h
def EvOk (ρ:Env)(m:Md)(e:Exp)(x:TV):Prop:=match m with
 |.tail _=>den ρ e = .list (x.t.encP x.v)
 |_=>den ρ e=x.enc
structure RelS(ρ:Env)(K:Kno)(l:List Slot):Prop where
 slot:∀(j:Nat) s,l[j]? = some s->(∀q∈s.g,q.1.bnd j=true)/\(holdsG ρ s.g->ρ j=s.x.enc)
 kno:KnoOk ρ K
theorem EV.as_eq{x:EV}{t:Ty}{v:t.den}(h:x.as t=some v):x.x = ⟨t,v⟩:=TV.as_eq h
theorem zbo {c:Bool}{l:List Bool}(h:∀b∈l.map (fun q=>!c||q),b=true)(hc:c=true):∀b∈l,b=true:=by
 intro b hb
 have:=h _ (List.mem_map.2 ⟨b,hb,rfl⟩)
 simpa[hc]using this
theorem zg5 {c:Bool}{l:List Bool}(h:∀b∈l.map (fun q=>c||q),b=true)(hc:c=false):∀b∈l,b=true:=by
 intro b hb
 have:=h _ (List.mem_map.2 ⟨b,hb,rfl⟩)
 simpa[hc]using this
theorem zat {a b:List Bool}(h:∀x∈a++b,x=true):(∀x∈a,x=true)/\∀x∈b,x=true :=
 ⟨fun x hx=>h x (List.mem_append_left _ hx),fun x hx=>h x (List.mem_append_right _ hx)⟩
section
variable {K:Kno}{l:List Slot}{ρ:Env}
theorem zlu {m:Md}{e:Exp}{x:EV}(hm:∀t,m ≠ .tail t)(h:EvOk ρ m e x.x):den ρ e=x.x.enc:=by
 cases m with
 |any=>exact h
 |ty t=>exact h
 |tail t=>exact absurd rfl (hm t)
theorem zdA {m:Md}{e:Exp}{x:TV}(hm:∀t,m ≠ .tail t)(h:den ρ e=x.enc):EvOk ρ m e x:=by
 cases m with
 |any=>exact h
 |ty t=>exact h
 |tail t=>exact absurd rfl (hm t)
theorem zaJ (hR : RelS ρ K l) : ∀ (e : Exp) (G : Grd) (m : Md) (x : EV), ev K l e G m = some x -> holdsG ρ G -> (∀ b ∈ x.ob, b = true) -> EvOk ρ m e x.x := by
 intro e
 induction e with
 | var v =>
   intro G m x h hG hob
   simp only[ev]at h
   split at h
   ·cases h
   · rename_i hm
     split at h
     · rename_i s hs
       split at h
       · rename_i hg
         cases h
         exact zdA hm ((hR.slot v s hs).2 (zfs hg hG))
       ·cases h
     ·cases h
 | int n =>
   intro G m x h hG hob
   simp only[ev]at h
   split at h
   ·cases h
   ·rename_i hm;cases h;exact zdA hm rfl
 | bool n =>
   intro G m x h hG hob
   simp only[ev]at h
   split at h
   ·cases h
   ·rename_i hm;cases h;exact zdA hm rfl
 | str n =>
   intro G m x h hG hob
   simp only[ev]at h
   split at h
   ·cases h
   ·rename_i hm;cases h;exact zdA hm rfl
 | nil =>
   intro G m x h hG hob
   simp only[ev]at h
   split at h
   ·cases h;rfl
   ·cases h;rfl
   ·cases h
 | un o a ih =>
   intro G m x h hG hob
   simp only[ev]at h
   split at h
   ·cases h
   · rename_i hm
     split at h
     case h_2=>cases h
     rename_i xa hxa
     split at h
     case h_2=>cases h
     rename_i y hy
     cases h
     have:=ih G .any xa hxa hG hob
     refine zdA hm ?_
     show o.den (den ρ a)=_
     rw[show den ρ a=xa.x.enc from this];exact ziJ hy
 | bin o a b iha ihb =>
   have gen : ∀ (G : Grd) (m : Md) (x : EV), (match m with
    |.tail _=>none
    | _ => match ev K l a G .any with
      | some x => match ev K l b G .any with
        | some y => match infB K G a b o x.x y.x with
          |some z=>some (⟨z.x,x.ob++(y.ob++z.ob)⟩:EV)
          |none=>none
        |none=>none
      |none=>none)=some x->holdsG ρ G->(∀b∈x.ob,b=true)->EvOk ρ m (.bin o a b) x.x:=by
    intro G m x h hG hob
    split at h
    ·cases h
    rename_i hm
    split at h
    case h_2=>cases h
    rename_i xa hxa
    split at h
    case h_2=>cases h
    rename_i xb hxb
    split at h
    case h_2=>cases h
    rename_i z hz
    cases h
    obtain⟨o1,o2⟩:=zat hob
    obtain⟨o2,o3⟩:=zat o2
    have h1:den ρ a=xa.x.enc:=iha G .any xa hxa hG o1
    have h2:den ρ b=xb.x.enc:=ihb G .any xb hxb hG o2
    refine zdA hm ?_
    show o.den (den ρ a) (den ρ b)=_
    rw[h1,h2]
    have:=ziC hR.kno hG h1 h2 hz o3
    exact this
   intro G m x h hG hob
   cases o with
   | cons =>
     simp only[ev]at h
     split at h
     ·cases h
     · split at h
       case h_2=>cases h
       rename_i t xa hxa
       split at h
       case h_2=>cases h
       rename_i u hu
       split at h
       case h_2=>cases h
       rename_i xb hxb
       split at h
       case h_2=>cases h
       rename_i w hw
       cases h
       obtain⟨o1,o2⟩:=zat hob
       have h1:den ρ a=xa.x.enc:=iha G _ xa hxa hG o1
       have h2:den ρ b=xb.x.enc:=ihb G _ xb hxb hG o2
       rw[EV.as_eq hu]at h1
       rw[EV.as_eq hw]at h2
       show T.cons (den ρ a) (den ρ b)=_
       rw[h1,h2];rfl
     · split at h
       case h_2=>cases h
       rename_i t q xa hxa
       split at h
       case h_2=>cases h
       rename_i u hu
       split at h
       case h_2=>cases h
       rename_i xb hxb
       split at h
       case h_2=>cases h
       rename_i w hw
       cases h
       obtain⟨o1,o2⟩:=zat hob
       have h1:den ρ a=xa.x.enc:=iha G _ xa hxa hG o1
       have h2:den ρ b = .list (xb.x.t.encP xb.x.v):=ihb G _ xb hxb hG o2
       rw[EV.as_eq hu]at h1
       rw[EV.as_eq hw]at h2
       show T.cons (den ρ a) (den ρ b)=_
       rw[h1,h2];rfl
     · split at h
       case h_2=>cases h
       rename_i t q xa hxa
       split at h
       case h_2=>cases h
       rename_i u hu
       split at h
       case h_2=>cases h
       rename_i xb hxb
       split at h
       case h_2=>cases h
       rename_i w hw
       cases h
       obtain⟨o1,o2⟩:=zat hob
       have h1:den ρ a=xa.x.enc:=iha G _ xa hxa hG o1
       have h2:den ρ b = .list (xb.x.t.encP xb.x.v):=ihb G _ xb hxb hG o2
       rw[EV.as_eq hu]at h1
       rw[EV.as_eq hw]at h2
       show T.cons (den ρ a) (den ρ b)=_
       rw[h1,h2];rfl
     · rename_i t hnp
       split at h
       case h_2=>cases h
       split at h
       case h_2=>cases h
       rename_i xa hxa
       split at h
       case h_2=>cases h
       rename_i u hu
       cases h
       have h1:den ρ a=xa.x.enc:=iha G _ xa hxa hG hob
       rw[EV.as_eq hu]at h1
       show T.cons (den ρ a) (.list []) = .list (t.encP u)
       rw[h1,Ty.encP_one t u (by cases t<;>first|rfl|exact absurd rfl (hnp _ _))];rfl
     ·cases h
   | cat =>
     have go : ∀ (t : Ty) (x : EV), (match ev K l a G (.ty (.list t)) with
      | some x => match x.as (.list t) with
        | some u => match ev K l b G (.ty (.list t)) with
          | some y => match y.as (.list t) with
            |some w=>some (⟨⟨.list t,u++w⟩,x.ob++y.ob⟩:EV)
            |none=>none
          |none=>none
        |none=>none
      |none=>none)=some x->(∀b∈x.ob,b=true)->den ρ (.bin .cat a b)=x.x.enc:=by
      intro t x h hob
      split at h
      case h_2=>cases h
      rename_i xa hxa
      split at h
      case h_2=>cases h
      rename_i u hu
      split at h
      case h_2=>cases h
      rename_i xb hxb
      split at h
      case h_2=>cases h
      rename_i w hw
      cases h
      obtain⟨o1,o2⟩:=zat hob
      have h1:den ρ a=xa.x.enc:=iha G _ xa hxa hG o1
      have h2:den ρ b=xb.x.enc:=ihb G _ xb hxb hG o2
      rw[EV.as_eq hu]at h1
      rw[EV.as_eq hw]at h2
      show T.cat (den ρ a) (den ρ b)=_
      rw[h1,h2]
      simp[TV.enc,T.cat]
     simp only[ev]at h
     split at h
     ·exact go _ _ h hob
     · split at h
       ·exact go _ _ h hob
       · split at h
         ·exact go _ _ h hob
         ·cases h
     ·cases h
   | rep =>
     simp only[ev]at h
     split at h
     ·cases h
     · split at h
       case h_2=>cases h
       rename_i xa hxa
       split at h
       case h_2=>cases h
       rename_i n hn
       split at h
       case h_2=>cases h
       rename_i y hy
       cases h
       obtain⟨o1,o2⟩:=zat hob
       have h1:den ρ a=xa.x.enc:=iha G _ xa hxa hG o1
       have h2:den ρ b=y.x.enc:=ihb G _ y hy hG o2
       rw[EV.as_eq hn]at h1
       show T.rep (den ρ a) (den ρ b)=_
       rw[h1,h2]
       simp[TV.enc,T.rep]
     · split at h
       case h_2=>cases h
       rename_i xa hxa
       split at h
       case h_2=>cases h
       rename_i n hn
       split at h
       case h_2=>cases h
       rename_i y hy
       split at h
       case h_2=>cases h
       rename_i w hw
       cases h
       obtain⟨o1,o2⟩:=zat hob
       have h1:den ρ a=xa.x.enc:=iha G _ xa hxa hG o1
       have h2:den ρ b=y.x.enc:=ihb G _ y hy hG o2
       rw[EV.as_eq hn]at h1
       rw[EV.as_eq hw]at h2
       show T.rep (den ρ a) (den ρ b)=_
       rw[h1,h2]
       simp[TV.enc,T.rep]
     ·cases h
   | setC j =>
     simp only[ev]at h
     split at h
     ·cases h
     rename_i hm
     split at h
     case h_2=>cases h
     rename_i xa hxa
     split at h
     case h_2=>cases h
     split at h
     case h_2=>cases h
     rename_i t _ xb hxb
     split at h
     case h_2=>cases h
     rename_i w hw
     cases h
     obtain⟨o1,o2⟩:=zat hob
     have h1:den ρ a=xa.x.enc:=iha G _ xa hxa hG o1
     have h2:den ρ b=xb.x.enc:=ihb G _ xb hxb hG o2
     refine zdA hm ?_
     show T.setC j (den ρ a) (den ρ b)=_
     rw[h1,h2];exact zhK hw
   |ar=>exact gen G m x h hG hob
   |cmp=>exact gen G m x h hG hob
   |scmp=>exact gen G m x h hG hob
   |bcmp=>exact gen G m x h hG hob
   |and=>exact gen G m x h hG hob
   |or=>exact gen G m x h hG hob
   |plus=>exact gen G m x h hG hob
   |minus=>exact gen G m x h hG hob
   |idx=>exact gen G m x h hG hob
   |scat=>exact gen G m x h hG hob
   |trim=>exact gen G m x h hG hob
   |cmp3=>exact gen G m x h hG hob
   |sidx=>exact gen G m x h hG hob
   |max=>exact gen G m x h hG hob
   |min=>exact gen G m x h hG hob
   | mhas =>
     simp only[ev]at h
     split at h
     ·cases h
     rename_i hm
     split at h
     case h_2=>cases h
     rename_i tk tv ll oo hxa
     split at h
     case h_2=>cases h
     rename_i y hy
     split at h
     case h_2=>cases h
     rename_i k hk
     split at h
     case h_2=>cases h
     rename_i w hw
     cases h
     obtain⟨o1,o2⟩:=zat hob
     have h1:den ρ a=_:=iha G .any _ hxa hG o1
     have h2:den ρ b=y.x.enc:=ihb G _ y hy hG o2
     rw[EV.as_eq hk]at h2
     refine zdA hm ?_
     show T.mhas (den ρ a) (den ρ b)=_
     rw[h1,h2]
     exact ziS hw
 | tri o a b c iha ihb ihc =>
   intro G m x h hG hob
   cases o with
   | ite =>
     have go : ∀ (t : Ty) (x : EV), (match ev K l a G .any with
      | some x => match x.as .bool with
        | some cv => match ev K l b ((a, true) :: G) (.ty t) with
          | some y => match y.as t with
            | some u => match ev K l c ((a, false) :: G) (.ty t) with
              | some z => match z.as t with
                |some w=>some (⟨⟨t,if cv then u else w⟩,x.ob++(y.ob.map (fun q=>!cv||q)++z.ob.map (fun q=>cv||q))⟩:EV)
                |none=>none
              |none=>none
            |none=>none
          |none=>none
        |none=>none
      |none=>none)=some x->(∀b∈x.ob,b=true)->den ρ (.tri .ite a b c)=x.x.enc:=by
      intro t x h hob
      split at h
      case h_2=>cases h
      rename_i xa hxa
      split at h
      case h_2=>cases h
      rename_i cv hcv
      split at h
      case h_2=>cases h
      rename_i y hy
      split at h
      case h_2=>cases h
      rename_i u hu
      split at h
      case h_2=>cases h
      rename_i z hz
      split at h
      case h_2=>cases h
      rename_i w hw
      cases h
      obtain⟨o1,o2⟩:=zat hob
      obtain⟨o2,o3⟩:=zat o2
      have h1:den ρ a=xa.x.enc:=iha G _ xa hxa hG o1
      rw[EV.as_eq hcv]at h1
      show T.ite (den ρ a) (den ρ b) (den ρ c)=_
      rw[h1]
      cases cv with
      | true =>
        have h2:den ρ b=y.x.enc:=ihb _ _ y hy ⟨h1,hG⟩ (zbo o2 rfl)
        rw[EV.as_eq hu]at h2
        show den ρ b=_
        rw[h2];rfl
      | false =>
        have h2:den ρ c=z.x.enc:=ihc _ _ z hz ⟨h1,hG⟩ (zg5 o3 rfl)
        rw[EV.as_eq hw]at h2
        show den ρ c=_
        rw[h2];rfl
     simp only[ev]at h
     split at h
     ·cases h
     ·exact go _ _ h hob
     · split at h
       ·exact go _ _ h hob
       · split at h
         ·exact go _ _ h hob
         ·cases h
   | setI =>
     simp only[ev]at h
     split at h
     ·cases h
     rename_i hm
     split at h
     case h_2=>cases h
     rename_i t q o1 hxa
     split at h
     case h_2=>cases h
     rename_i y hy
     split at h
     case h_2=>cases h
     rename_i n hn
     split at h
     case h_2=>cases h
     rename_i z hz
     split at h
     case h_2=>cases h
     rename_i w hw
     cases h
     obtain⟨o1,o2⟩:=zat hob
     obtain⟨o2,o3⟩:=zat o2
     obtain⟨o3,o4⟩:=zat o3
     have h1:den ρ a=T.list (q.map t.enc):=iha G _ _ hxa hG o1
     have h2:den ρ b=y.x.enc:=ihb G _ y hy hG o2
     have h3:den ρ c=z.x.enc:=ihc G _ z hz hG o3
     rw[EV.as_eq hn]at h2
     rw[EV.as_eq hw]at h3
     have h0:0<=n:=by
      split at o4
      · rename_i hk
        exact (zhN h1 h2 (zcO hR.kno hk hG)).1
      · have:=o4 _ (List.mem_singleton.2 rfl)
        simpa using this
     refine zdA hm ?_
     show T.setI (den ρ a) (den ρ b) (den ρ c)=_
     rw[h1,h2,h3]
     exact zky h0
   | ext =>
     simp only[ev]at h
     split at h
     ·cases h
     rename_i hm
     split at h
     case h_2=>cases h
     rename_i t q o1 hxa
     split at h
     case h_2=>cases h
     rename_i y hy
     split at h
     case h_2=>cases h
     rename_i n hn
     split at h
     case h_2=>cases h
     rename_i z hz
     split at h
     case h_2=>cases h
     rename_i w hw
     cases h
     obtain⟨o1,o2⟩:=zat hob
     obtain⟨o2,o3⟩:=zat o2
     have h1:den ρ a=T.list (q.map t.enc):=zlu hm (iha G _ _ hxa hG o1)
     have h2:den ρ b=y.x.enc:=ihb G _ y hy hG o2
     have h3:den ρ c=z.x.enc:=ihc G _ z hz hG o3
     rw[EV.as_eq hn]at h2
     rw[EV.as_eq hw]at h3
     refine zdA hm ?_
     show T.ext (den ρ a) (den ρ b) (den ρ c)=_
     rw[h1,h2,h3]
     simp[TV.enc,T.ext,List.map_drop,List.map_take]
   | sext =>
     simp only[ev]at h
     split at h
     ·cases h
     rename_i hm
     split at h
     case h_2=>cases h
     rename_i q o1 hxa
     split at h
     case h_2=>cases h
     rename_i y hy
     split at h
     case h_2=>cases h
     rename_i n hn
     split at h
     case h_2=>cases h
     rename_i z hz
     split at h
     case h_2=>cases h
     rename_i w hw
     cases h
     obtain⟨o1,o2⟩:=zat hob
     obtain⟨o2,o3⟩:=zat o2
     have h1:den ρ a=T.str ⟨q.toArray⟩:=iha G _ _ hxa hG o1
     have h2:den ρ b=y.x.enc:=ihb G _ y hy hG o2
     have h3:den ρ c=z.x.enc:=ihc G _ z hz hG o3
     rw[EV.as_eq hn]at h2
     rw[EV.as_eq hw]at h3
     refine zdA hm ?_
     show T.sext (den ρ a) (den ρ b) (den ρ c)=_
     rw[h1,h2,h3]
     simp only[TV.enc,T.sext,Ty.enc_int,Ty.enc_str,zi6]
   | mget =>
     simp only[ev]at h
     split at h
     ·cases h
     rename_i hm
     split at h
     case h_2=>cases h
     rename_i tk tv ll oo hxa
     split at h
     case h_2=>cases h
     rename_i y hy
     split at h
     case h_2=>cases h
     rename_i k hk
     split at h
     case h_2=>cases h
     rename_i z hz
     split at h
     case h_2=>cases h
     rename_i d hd
     split at h
     case h_2=>cases h
     rename_i w hw
     cases h
     obtain⟨o1,o2⟩:=zat hob
     obtain⟨o2,o3⟩:=zat o2
     have h1:den ρ a=_:=iha G .any _ hxa hG o1
     have h2:den ρ b=y.x.enc:=ihb G _ y hy hG o2
     have h3:den ρ c=z.x.enc:=ihc G _ z hz hG o3
     rw[EV.as_eq hk]at h2
     rw[EV.as_eq hd]at h3
     refine zdA hm ?_
     show T.mget (den ρ a) (den ρ b) (den ρ c)=_
     rw[h1,h2,h3]
     exact zjP hw
   | mset =>
     simp only[ev]at h
     split at h
     ·cases h
     rename_i hm
     split at h
     case h_2=>cases h
     rename_i tk tv ll oo hxa
     split at h
     case h_2=>cases h
     rename_i y hy
     split at h
     case h_2=>cases h
     rename_i k hk
     split at h
     case h_2=>cases h
     rename_i z hz
     split at h
     case h_2=>cases h
     rename_i d hd
     split at h
     case h_2=>cases h
     rename_i w hw
     cases h
     obtain⟨o1,o2⟩:=zat hob
     obtain⟨o2,o3⟩:=zat o2
     have h1:den ρ a=_:=zlu hm (iha G m _ hxa hG o1)
     have h2:den ρ b=y.x.enc:=ihb G _ y hy hG o2
     have h3:den ρ c=z.x.enc:=ihc G _ z hz hG o3
     rw[EV.as_eq hk]at h2
     rw[EV.as_eq hd]at h3
     refine zdA hm ?_
     show T.mset (den ρ a) (den ρ b) (den ρ c)=_
     rw[h1,h2,h3]
     exact zjg hw
   |punch m=>simp only[ev]at h;cases h
theorem zcC {x:Nat}{d:Exp}:∀{K:Kno},KnoOk ρ K->defOf x K=some d->ρ x=den ρ d
 |[],_,h=>by cases h
 | p :: r, hK, h => by
   have hr:KnoOk ρ r:=fun q hq=>hK q (List.mem_cons_of_mem _ hq)
   unfold defOf at h
   split at h
   ·cases h
   · rename_i y d' r' heq
     cases heq
     split at h
     · rename_i hy
       cases h
       have:=hK _ (List.mem_cons_self ..) trivial
       rw[<- Nat.eq_of_beq_eq_true hy]
       exact this
     ·exact zcC hr h
   · rename_i heq
     cases heq
     exact zcC hr h
theorem zgZ {l i:Exp}(h:den ρ (rngE l i) = .bool true):∃rows n,den ρ l = .list rows/\den ρ i = .int n/\0<=n/\n<rows.length:=by
 simp only[rngE,den,B.den,U.den]at h
 generalize den ρ l=a at h ⊢
 generalize den ρ i=b at h ⊢
 cases b with
 | int n =>
   cases a with
   | list rows =>
     simp only[T.cmp,T.cmpI,T.len,T.band,T.bool.injEq,Bool.and_eq_true,decide_eq_true_eq]at h
     exact⟨rows,n,rfl,rfl,h.1,h.2⟩
   |_=>simp[T.cmp,T.cmpI,T.len,T.band]at h
 |_=>simp[T.cmp,T.cmpI,T.len,T.band]at h
theorem zjm {l i v:Exp}{rows:List T}{n:Int}(h1:den ρ l = .list rows)(h2:den ρ i = .int n)(h3:0<=n):den ρ (.tri .setI l i v) = .list (rows.set n.toNat (den ρ v)):=by
 simp only[den,Tr.den,h1,h2,T.setI,if_neg (show ¬n<0 by omega)]
theorem zj3 {a:Exp}(h:∀e∈(mkLen a).2,den ρ e = .bool true):den ρ (mkLen a).1=T.len (den ρ a):=by
 unfold mkLen at h ⊢
 split
 · rename_i l i v
   obtain⟨rows,n,h1,h2,h3,h4⟩:=zgZ (h (rngE l i) (by simp))
   rw[zjm h1 h2 h3]
   simp only[den,U.den,h1,T.len,List.length_set]
 ·rfl
theorem zjS {a i:Exp}(h:∀e∈(mkIdx a i).2,den ρ e = .bool true):den ρ (mkIdx a i).1=T.idx (den ρ a) (den ρ i):=by
 unfold mkIdx at h ⊢
 split
 · rename_i l k v
   split
   · rename_i hk
     have hk:=Exp.eqb_eq hk
     subst hk
     simp only[Exp.eqb_refl,if_true]at h
     obtain⟨rows,n,h1,h2,h3,h4⟩:=zgZ (h (rngE l k) (by simp))
     rw[zjm h1 h2 h3,h2]
     simp only[T.idx,if_neg (show ¬n<0 by omega)]
     have:n.toNat<rows.length:=by omega
     simp[List.getD_eq_getElem?_getD,this]
   ·rfl
 ·rfl
theorem zi5 {a i v:Exp}:den ρ (mkSetI a i v)=T.setI (den ρ a) (den ρ i) (den ρ v):=by
 unfold mkSetI
 split
 · rename_i l k u
   split
   · rename_i hk
     have hk:=Exp.eqb_eq hk
     subst hk
     simp only[den,Tr.den]
     generalize den ρ l=a
     generalize den ρ k=b
     cases a<;>cases b<;>simp[T.setI]
     split<;>simp[T.setI, *]
   ·rfl
 ·rfl
theorem zi4 {j:Nat}{a v:Exp}:den ρ (mkSetC j a v)=T.setC j (den ρ a) (den ρ v):=by
 unfold mkSetC
 split
 · rename_i k r h
   split
   · rename_i hk
     have hk:=Nat.eq_of_beq_eq_true hk
     subst hk
     simp only[den,B.den]
     generalize den ρ r=x
     cases x<;>simp[T.setC]
   · rename_i hk
     split
     · simp only[den,B.den]
       generalize den ρ r=x
       cases x with
       | list l =>
         simp only[T.setC]
         rw[List.set_comm]
         intro e
         subst e
         exact hk (by simp)
       |_=>rfl
     ·rfl
 ·rfl
theorem zjO {K:Kno}(hK:KnoOk ρ K):∀(e:Exp),(∀o∈(rsv K e).2,den ρ o = .bool true)->den ρ (rsv K e).1=den ρ e:=by
 intro e
 induction e with
 | var x =>
   intro _
   simp only[rsv]
   split
   · rename_i d hd
     exact (zcC hK hd).symm
   ·rfl
 |int n=>intro _;rfl
 |bool n=>intro _;rfl
 |str n=>intro _;rfl
 |nil=>intro _;rfl
 | un o a ih =>
   intro h
   cases o with
   | len =>
     simp only[rsv]at h ⊢
     rw[zj3 (fun e he=>h e (List.mem_append_right _ he)),ih fun e he=>h e (List.mem_append_left _ he)];rfl
   | _ =>
     simp only[rsv]at h ⊢
     simp only[den]
     rw[ih h]
 | bin o a b iha ihb =>
   intro h
   cases o with
   | idx =>
     simp only[rsv]at h ⊢
     rw[zjS (fun e he=>h e (List.mem_append_right _ (List.mem_append_right _ he))),iha fun e he=>h e (List.mem_append_left _ he),ihb fun e he=>h e (List.mem_append_right _ (List.mem_append_left _ he))];rfl
   | setC j =>
     simp only[rsv]at h ⊢
     rw[zi4,iha fun e he=>h e (List.mem_append_left _ he),ihb fun e he=>h e (List.mem_append_right _ he)];rfl
   | _ =>
     simp only[rsv]at h ⊢
     simp only[den]
     rw[iha fun e he=>h e (List.mem_append_left _ he),ihb fun e he=>h e (List.mem_append_right _ he)]
 | tri o a b c iha ihb ihc =>
   intro h
   cases o with
   | setI =>
     simp only[rsv]at h ⊢
     rw[zi5,iha fun e he=>h e (List.mem_append_left _ he),ihb fun e he=>h e (List.mem_append_right _ (List.mem_append_left _ he)),ihc fun e he=>h e (List.mem_append_right _ (List.mem_append_right _ he))];rfl
   | _ =>
     simp only[rsv]at h ⊢
     simp only[den]
     rw[iha fun e he=>h e (List.mem_append_left _ he),ihb fun e he=>h e (List.mem_append_right _ (List.mem_append_left _ he)),ihc fun e he=>h e (List.mem_append_right _ (List.mem_append_right _ he))]
theorem zee {K:Kno}(hK:KnoOk ρ K){e:Exp}(h:∀o∈(rs K e).2,den ρ o = .bool true):den ρ (rs K e).1=den ρ e:=by
 unfold rs at h ⊢
 split
 · rename_i hu
   rw[if_pos hu]at h
   exact zjO hK e h
 ·rfl
end
end Gp
namespace Gp
open Go Sh
structure Fn where
 ins:List Ty
 outs:List Ty
 f:Tup ins->Option (Tup outs)
@[reducible] def need {R:Type}:List Bool->Option R->Option R
 |[],k=>k
 |b::r,k=>if b then need r k else none
@[reducible] def XT:List (List Ty)->Type
 |[]=>Empty
 |[t]=>Tup t
 |t::u::r=>Tup t ⊕ XT (u::r)
def xin:(L:List (List Ty))->Nat->List Slot->Option (XT L)
 |[],_,_=>none
 |[t],0,sl=>packs t sl
 |[_],_+1,_=>none
 | t :: u :: r, 0, sl => match packs t sl with
   |some s=>some (.inl s)
   |none=>none
 | t :: u :: r, k + 1, sl => match xin (u :: r) k sl with
   |some s=>some (.inr s)
   |none=>none
def xout {R:Type}:(L:List (List Ty))->XT L->(Nat->List Slot->Option R)->Option R
 |[],_,_=>none
 |[t],x,f=>f 0 (unp t x)
 | t :: u :: r, x, f => match x with
   |.inl s=>f 0 (unp t s)
   |.inr y=>xout (u::r) y (fun k=>f (k+1))
inductive Ann where
 |nil
 |sis (ts:List Ty)
 |seq (a b:Ann)
 |cond (J:Option (Nat × List Ty)) (esc:Bool) (a b:Ann)
 |block (J:Option (Nat × List Ty)) (esc:Bool) (a:Ann)
 |loop (nb:Nat) (ts:List Ty) (es:List (Nat × Nat)) (L:List (List Ty)) (a:Ann)
 deriving Repr,Inhabited
def lowS (nb:Nat):List (Grd × SI)->Bool
 |[]=>true
 |(_,.set x _)::r=>Nat.ble nb x&&lowS nb r
 |(_,.mov x _)::r=>Nat.ble nb x&&lowS nb r
 |(_,.chk _)::r=>lowS nb r
 |(_,.call _ _ x _)::r=>Nat.ble nb x&&lowS nb r
def lowP (nb:Nat):PI->Bool
 |.skip|.exit _|.ret _=>true
 |.sis l=>lowS nb l
 |.seq a b|.cond _ a b=>lowP nb a&&lowP nb b
 |.block _ a|.loop a=>lowP nb a
def lowQ (nb:Nat)(lv:Nat->Nat):PI->Bool
 |.skip|.exit _|.ret _=>true
 |.sis l=>lowS nb l
 | .seq a b => (match a, b with
   |.sis l,.exit j=>lowS (lv j) l
   |_,_=>false)||(lowQ nb lv a&&lowQ nb lv b)
 |.cond _ a b=>lowQ nb lv a&&lowQ nb lv b
 |.block id a=>lowQ nb (fun j=>if Nat.beq j id then nb else lv j) a
 |.loop a=>lowQ nb lv a
def gbnd (g:Grd)(n:Nat):Bool:=g.all fun q=>q.1.bnd n
def gB (K : Kno) (ρ : List Slot) : Grd -> Option (Bool × List Bool)
 |[]=>some (true,[])
 | [(e, b)] => match ev K ρ e [] (.ty .bool) with
   | some x => match x.as .bool with
     |some v=>some ((match b with|true=>v|false=>!v),x.ob)
     |none=>none
   |none=>none
 | (e, b) :: q :: r => match gB K ρ (q :: r) with
   | some (c, ob) => match ev K ρ e (q :: r) (.ty .bool) with
     | some x => match x.as .bool with
       |some v=>some (c&&(match b with|true=>v|false=>!v),ob++x.ob.map fun o=>!c||o)
       |none=>none
     |none=>none
   |none=>none
def evs (K:Kno)(ρ:List Slot)(G:Grd):List Exp->(ts:List Ty)->Option (Tup ts × List Bool)
 |[],[]=>some ((),[])
 | [e], [t] => match ev K ρ e G (.ty t) with
   | some x => match x.as t with
     |some v=>some (v,x.ob)
     |none=>none
   |none=>none
 | e :: es, t :: u :: r => match ev K ρ e G (.ty t) with
   | some x => match x.as t with
     | some v => match evs K ρ G es (u :: r) with
       |some (w,ob)=>some ((v,w),x.ob++ob)
       |none=>none
     |none=>none
   |none=>none
 |_,_=>none
def obE (K:Kno)(ρ:List Slot):List Exp->Option (List Bool)
 |[]=>some []
 | .bin .and a b :: r => if knows K [] (.bin .and a b) then obE K ρ r else match ev K ρ (.bin .and a b) [] (.ty .bool) with
   | some x => match x.as .bool with
     | some v => match obE K ρ r with
       |some l=>some (x.ob++(v::l))
       |none=>none
     |none=>none
   |none=>none
 |_::_=>none
def rsL (K:Kno):List Exp->List Exp × List Exp
 |[]=>([],[])
 |e::es=>((rs K e).1::(rsL K es).1,(rs K e).2++(rsL K es).2)
def notDef:Exp->Bool
 |.bin .cons _ _=>false
 |_=>true
abbrev mif {α:Type}(b:Bool)(x y:α):α:=match b with
 |true=>x
 |false=>y
theorem zaM {α:Type}(b:Bool)(x y:α):mif b x y=if b then x else y:=by cases b<;>rfl
def movA (K:Kno)(ρ:List Slot)(x:Nat):Nat->List Exp->List Ty->Option (List Slot × Kno × List Bool)
 |_,[],[]=>some ([],[],[])
 | j, e :: es, t :: ts => match movA K ρ x (j + 1) es ts with
   | some (sl, kk, ob) => mif (hasHole e) (mif (e.bnd x) (some (⟨[(.bool false, true)], .unit, ()⟩ :: sl, ([], defE j e) :: kk, ob)) none) (match ev K ρ e [] (.ty t) with
     | some v => match v.as t with
       |some w=>some (⟨[],t,w⟩::sl,kk,v.ob++ob)
       |none=>none
     |none=>none)
   |none=>none
 |_,_,_=>none
def dnS (fs : List Fn) (i : Nat) {R : Type} (k : Kno -> List Slot -> Option R) : List (Grd × SI) -> List Ty -> Kno -> List Slot -> Option R
 |[],_,K,ρ=>k K ρ
 | (g, .set x e) :: r, ts, K, ρ => match ts with
   |[]=>none
   | t :: ts => mif (Nat.beq x ρ.length && gbnd g ρ.length) (match g with
     | [] => match obE K ρ (rs K e).2 with
       |some ob0=>mif (hasHole (rs K e).1) ((mif ((rs K e).1.bnd ρ.length) (need ob0 (dnS fs i k r ts (([],defE x (rs K e).1)::K) (ρ ++ [⟨[(.bool false,true)],.unit,()⟩]))) (none))) (match ev K ρ (rs K e).1 [] (.ty t) with
        | some v => match v.as t with
          |some w=>need ob0 (need v.ob (dnS fs i k r ts K (ρ ++ [⟨[],t,w⟩])))
          |none=>none
        |none=>none)
       |none=>none
     | _ => match ev K ρ e g (.ty t) with
       | some v => match v.as t with
         | some w => match gB K ρ g with
           |some (c,ob)=>need ob (need (v.ob.map fun o=>!c||o) (dnS fs i k r ts K (ρ ++ [⟨g,t,w⟩])))
           |none=>none
         |none=>none
       |none=>none) (none)
 | (g, .mov x es) :: r, ts, K, ρ => match g with
   | [] => mif (Nat.ble x ρ.length) (match obE K ρ (rsL K es).2 with
     | some ob0 => mif ((rsL K es).1.any hasHole) (match movA K ρ x x (rsL K es).1 (ts.take es.length) with
      |some (sl,kk,ob)=>need ob0 (need ob (dnS fs i k r (ts.drop es.length) (kk++K.bnd x) (ρ.take x++sl)))
      |none=>none) (match evs K ρ [] (rsL K es).1 (ts.take es.length) with
       |some (a,ob)=>need ob0 (need ob (dnS fs i k r (ts.drop es.length) (K.bnd x) (ρ.take x++unp _ a)))
       |none=>none)
     |none=>none) (none)
   |_=>none
 | (g, .chk e) :: r, ts, K, ρ => mif (e.bnd ρ.length && gbnd g ρ.length && notDef e) (match g with
   | [] => match obE K ρ (rs K e).2 with
     | some ob0 => match ev K ρ (rs K e).1 [] (.ty .bool) with
       | some v => match v.as .bool with
         |some c=>need ob0 (need v.ob (if c then dnS fs i k r ts (([],e)::K) ρ else none))
         |none=>none
       |none=>none
     |none=>none
   | _ => match ev K ρ e g (.ty .bool) with
     | some v => match v.as .bool with
       | some c => match gB K ρ g with
         |some (gc,ob)=>need ob (need (v.ob.map fun o=>!gc||o) (if !gc||c then dnS fs i k r ts ((g,e)::K) ρ else none))
         |none=>none
       |none=>none
     |none=>none) (none)
 | (g, .call j args x n) :: r, ts, K, ρ => mif (Nat.beq x ρ.length && gbnd g ρ.length && Nat.blt j i) (match fs[j]? with
   | some F => mif (Nat.beq n F.outs.length) (match g with
     | [] => match obE K ρ (rsL K args).2 with
       | some ob0 => match evs K ρ [] (rsL K args).1 F.ins with
         |some (a,ob)=>need ob0 (need ob ((F.f a).bind fun s=>dnS fs i k r ts K (ρ++unpG [] F.outs s)))
         |none=>none
       |none=>none
     | _ => match evs K ρ g args F.ins with
       | some (a, ob) => match gB K ρ g with
         |some (c,ob')=>need ob' (need (ob.map fun o=>!c||o) ((if c then F.f a else some (tdflt F.outs)).bind fun s=>dnS fs i k r ts K (ρ++unpG g F.outs s)))
         |none=>none
       |none=>none) (none)
   |none=>none) (none)
def findE (id:Nat):List (Nat × Nat)->Option (Nat × Nat)
 |[]=>none
 | (a, n) :: r => if Nat.beq a id then some (0, n) else match findE id r with
   |some (k,n)=>some (k+1,n)
   |none=>none
def lvE (es:List (Nat × Nat))(j:Nat):Nat:=match findE j es with
 |some (_,m)=>m
 |none=>0
noncomputable def dn(fs:List Fn)(i:Nat)(to:List Ty):{R:Type} -> PI->Ann->Kno->List Slot->(Kno->List Slot->Option R)->(Nat->List Slot->Option R)->(List Slot->Option R)->Option R
 |_,.skip,_,K,ρ,kn,ke,kr=>kn K ρ
 |_,.sis l,.sis ts,K,ρ,kn,ke,kr=>dnS fs i kn l ts K ρ
 |_,.seq a b,.seq ha hb,K,ρ,kn,ke,kr=>dn fs i to a ha K ρ (fun K' ρ'=>dn fs i to b hb K' ρ' kn ke kr) ke kr
 | _, .cond e a b, .cond J esc ha hb, K, ρ, kn, ke, kr => match ev K ρ e [] (.ty .bool) with
   | some x => match x.as .bool with
     | some c => match J with
       |none=>need x.ob (if c then dn fs i to a ha K ρ kn ke kr else dn fs i to b hb K ρ kn ke kr)
       | some (nb, ts) => mif (Nat.ble nb ρ.length && lowQ nb (fun _ => 0) a && lowQ nb (fun _ => 0) b) (match esc with
         | true =>
           let j:Tup ts->Option _:=fun s=>kn (K.bnd nb) (ρ.take nb++unp ts s)
           let k:Kno->List Slot->Option _:=fun _ ρ'=>match packs ts (ρ'.drop nb) with
            |some s=>j s
            |none=>none
           need x.ob (if c then dn fs i to a ha K ρ k ke kr else dn fs i to b hb K ρ k ke kr)
         | false =>
           let k:Kno->List Slot->Option (Tup ts):=fun _ ρ'=>packs ts (ρ'.drop nb)
           need x.ob ((if c then dn fs i to a ha K ρ k (fun _ _=>none) (fun _=>none) else dn fs i to b hb K ρ k (fun _ _=>none) (fun _=>none)).bind fun s=>kn (K.bnd nb) (ρ.take nb++unp ts s))) (none)
     |none=>none
   |none=>none
 | _, .block id a, .block J esc ha, K, ρ, kn, ke, kr => match J with
   |none=>dn fs i to a ha K ρ kn (fun id' ρ'=>mif (Nat.beq id' id) (kn [] ρ') (ke id' ρ')) kr
   | some (nb, ts) => mif (Nat.ble nb ρ.length && lowQ nb (fun j => mif (Nat.beq j id) (nb) (0)) a) (match esc with
     | true =>
       let j:Tup ts->Option _:=fun s=>kn (K.bnd nb) (ρ.take nb++unp ts s)
       let k:List Slot->Option _:=fun ρ'=>match packs ts (ρ'.drop nb) with
        |some s=>j s
        |none=>none
       dn fs i to a ha K ρ (fun _ ρ'=>k ρ') (fun id' ρ'=>mif (Nat.beq id' id) (k ρ') (ke id' ρ')) kr
     | false =>
       let k:List Slot->Option (Tup ts):=fun ρ'=>packs ts (ρ'.drop nb)
       (dn fs i to a ha K ρ (fun _ ρ'=>k ρ') (fun id' ρ'=>mif (Nat.beq id' id) (k ρ') (none)) (fun _=>none)).bind fun s=>kn (K.bnd nb) (ρ.take nb++unp ts s)) (none)
 | _, .loop a, .loop nb ts es L ha, K, ρ, kn, ke, kr => mif (Nat.ble nb ρ.length && lowQ nb (lvE es) a && es.all (fun e => Nat.ble e.2 nb)) (match packs ts (ρ.drop nb) with
   | some s0 => (loopM (fun s => dn fs i to (R := Tup ts ⊕ XT L) a ha (K.bnd nb) (ρ.take nb ++ unp ts s)
    (fun _ ρ'=>match packs ts (ρ'.drop nb) with
     |some s'=>some (.inl s')
     |none=>none)
    (fun id ρ'=>match findE id es with
     | some (k, n) => match xin L k (ρ'.drop n) with
       |some x=>some (.inr x)
       |none=>none
     |none=>none)
    (fun sl=>match xin L es.length sl with
     |some x=>some (.inr x)
     | none => none)) s0).bind fun x => xout L x (fun k sl => match es[k]? with
       |some (id,n)=>ke id (ρ.take n++sl)
       |none=>kr sl)
   |none=>none) (none)
 |_,.exit id,_,K,ρ,kn,ke,kr=>ke id ρ
 | _, .ret es, _, K, ρ, kn, ke, kr => match evs K ρ [] es to with
   |some (a,ob)=>need ob (kr (unp to a))
   |none=>none
 |_,_,_,_,_,_,_,_=>none
noncomputable def dnFn(fs:List Fn)(i:Nat)(p:PI)(h:Ann)(ins outs:List Ty)(a:Tup ins):Option (Tup outs) :=
 dn fs i outs p h [] (unp ins a) (fun _ _=>none) (fun _ _=>none) (fun sl=>packs outs sl)
end Gp
namespace Gp
open Go Sh
theorem zgo {g:Grd}{n:Nat}:gbnd g n=true ↔ ∀q∈g,q.1.bnd n=true:=by simp[gbnd]
theorem zba {ρ ρ':Env}{n:Nat}(h:Agree n ρ ρ'){g:Grd}(hg:∀q∈g,q.1.bnd n=true):holdsG ρ' g↔holdsG ρ g:=by
 rw[zcl,zcl]
 constructor
 ·intro k p hp;rw[<- zai h p.1 (hg p hp)];exact k p hp
 ·intro k p hp;rw[zai h p.1 (hg p hp)];exact k p hp
theorem zbK:∀(ts:List Ty) (a:Tup ts),(encs ts a).length=ts.length
 |[],_=>rfl
 |[t],_=>rfl
 |t::u::r,a=>by simp only[encs,List.length_cons];rw[zbK (u::r) a.2];rfl
theorem zen (g:Grd):∀(ts:List Ty) (a:Tup ts),(unpG g ts a).length=ts.length
 |[],_=>rfl
 |[t],_=>rfl
 |t::u::r,a=>by simp only[unpG,List.length_cons];rw[zen g (u::r) a.2];rfl
theorem zdZ (g:Grd):∀(ts:List Ty) (a:Tup ts) (j:Nat) (s:Slot),(unpG g ts a)[j]? = some s->s.g=g/\(encs ts a)[j]? = some s.x.enc
 |[],_,j,s,h=>by simp[unpG]at h
 | [t], a, j, s, h => by
   cases j with
   |zero=>simp[unpG]at h;subst h;exact⟨rfl,rfl⟩
   |succ j=>simp[unpG]at h
 | t :: u :: r, a, j, s, h => by
   cases j with
   |zero=>simp[unpG]at h;subst h;exact⟨rfl,rfl⟩
   | succ j =>
     simp only[unpG,List.getElem?_cons_succ]at h
     simpa only[encs,List.getElem?_cons_succ]using zdZ g (u::r) a.2 j s h
theorem Slot.as_eq{s:Slot}{t:Ty}{v:t.den}(h:s.as t=some v):s = ⟨[],t,v⟩:=by
 unfold Slot.as at h
 split at h
 · rename_i hg
   have:=TV.as_eq h
   cases s;simp_all
 ·cases h
theorem zaS:∀{ts:List Ty} {l:List Slot} {a:Tup ts},packs ts l=some a->l=unp ts a
 |[],[],a,h=>rfl
 |[],_::_,a,h=>by simp[packs]at h
 |[t],[],a,h=>by simp[packs]at h
 | [t], [s], a, h => by
   have:=Slot.as_eq (show s.as t=some a from h)
   rw[this];rfl
 |[t],_::_::_,a,h=>by simp[packs]at h
 |t::u::r,[],a,h=>by simp[packs]at h
 | t :: u :: r, s :: ss, a, h => by
   simp only[packs]at h
   split at h
   case h_2=>cases h
   rename_i x hx
   split at h
   case h_2=>cases h
   rename_i y hy
   cases h
   rw[Slot.as_eq hx,zaS hy];rfl
theorem ziv {R:Type}:∀{L:List (List Ty)} {k:Nat} {sl:List Slot} {x:XT L} (f:Nat->List Slot->Option R),xin L k sl=some x->xout L x f=f k sl/\(∃t,L[k]? = some t/\∃a:Tup t,sl=unp t a)
 |[],k,sl,x,f,h=>by cases k<;>simp[xin]at h
 | [t], 0, sl, x, f, h => by
   have e:=zaS (show packs t sl=some x from h)
   exact⟨by rw[e];rfl,t,rfl,x,e⟩
 |[t],k+1,sl,x,f,h=>by simp[xin]at h
 | t :: u :: r, 0, sl, x, f, h => by
   simp only[xin]at h
   split at h
   case h_2=>cases h
   rename_i s hs
   cases h
   have e:=zaS hs
   exact⟨by rw[e];rfl,t,rfl,s,e⟩
 | t :: u :: r, k + 1, sl, x, f, h => by
   simp only[xin]at h
   split at h
   case h_2=>cases h
   rename_i s hs
   cases h
   obtain⟨h1,t',h2,h3⟩:=ziv (fun k=>f (k+1)) hs
   exact⟨h1,t',by simpa using h2,h3⟩
theorem zan {R:Type}{k:Option R}{r:R}:∀{l:List Bool},need l k=some r->(∀b∈l,b=true)/\k=some r
 |[],h=>⟨by simp,h⟩
 | b :: l, h => by
   unfold need at h
   split at h
   · rename_i hb
     obtain⟨h1,h2⟩:=zan h
     exact⟨fun x hx=>by
      rcases List.mem_cons.1 hx with rfl|hx
      ·exact hb
      ·exact h1 x hx,h2⟩
   ·cases h
theorem zdI {ρ ρ':Env}{n:Nat}{e:Exp}(ha:Agree n ρ ρ')(he:e.bnd n=true)(h:factOk ρ e):factOk ρ' e:=by
 unfold factOk at h ⊢
 split
 · rename_i x d
   simp only[Exp.bnd,Bool.and_eq_true]at he
   rw[zai ha d he.2,ha x (Nat.le_of_ble_eq_true he.1)]
   exact h
 · rename_i hne
   rw[zai ha e he]
   split at h
   ·rename_i x d;exact absurd rfl (hne x d)
   ·exact h
structure RelB(ρ:Env)(K:Kno)(l:List Slot):Prop extends RelS ρ K l where
 kb:∀p∈K,p.2.bnd l.length=true/\∀q∈p.1,q.1.bnd l.length=true
variable {ρ ρ':Env}{K:Kno}{l:List Slot}
theorem RelB.app(h:RelB ρ K l){g:Grd}(hg:gbnd g l.length=true){ts:List Ty}{a:Tup ts}(ha:Agree l.length ρ ρ')
 (hv:holdsG ρ g->∀j x,(encs ts a)[j]? = some x->ρ' (l.length+j)=x):RelB ρ' K (l++unpG g ts a) where
 slot j s hs:=by
  by_cases hj:j<l.length
  · rw[List.getElem?_append_left hj]at hs
    obtain⟨h1,h2⟩:=h.slot j s hs
    refine⟨h1,fun hh=>?_⟩
    rw[ha j hj]
    exact h2 ((zba ha fun q hq=>Exp.bnd_mono (by omega) (h1 q hq)).1 hh)
  · rw[List.getElem?_append_right (by omega)]at hs
    obtain⟨h1,h2⟩:=zdZ g ts a _ s hs
    rw[h1]
    refine⟨fun q hq=>Exp.bnd_mono (by omega) (zgo.1 hg q hq),fun hh=>?_⟩
    have:=hv ((zba ha (zgo.1 hg)).1 hh) _ _ h2
    rwa[show l.length+(j-l.length)=j by omega]at this
 kno p hp hh:=by
  obtain⟨h1,h2⟩:=h.kb p hp
  exact zdI ha h1 (h.kno p hp ((zba ha h2).1 hh))
 kb p hp:=by
  obtain⟨h1,h2⟩:=h.kb p hp
  have:l.length<=(l++unpG g ts a).length:=by simp
  exact⟨Exp.bnd_mono this h1,fun q hq=>Exp.bnd_mono this (h2 q hq)⟩
theorem RelB.on(h:RelB ρ K l){g:Grd}(hg:gbnd g l.length=true){ts:List Ty}{a:Tup ts}:RelB (updL ρ l.length (encs ts a)) K (l++unpG g ts a) :=
 h.app hg (zap _ _ _ (Nat.le_refl _)) fun _ j x hx=>zb5 _ _ _ _ _ hx
theorem RelB.off(h:RelB ρ K l){g:Grd}(hg:gbnd g l.length=true)(hn:¬holdsG ρ g){ts:List Ty}{a:Tup ts}:RelB ρ K (l++unpG g ts a) :=
 h.app hg (Agree.refl _ _) fun hh=>absurd hh hn
theorem RelB.know(h:RelB ρ K l){g:Grd}{e:Exp}(he:e.bnd l.length=true)(hg:gbnd g l.length=true)(hv:holdsG ρ g->den ρ e = .bool true):RelB ρ ((g,e)::K) l where
 slot:=h.slot
 kno p hp hh:=by
  rcases List.mem_cons.1 hp with rfl|hp
  ·exact zja (hv hh)
  ·exact h.kno p hp hh
 kb p hp:=by
  rcases List.mem_cons.1 hp with rfl|hp
  ·exact⟨he,zgo.1 hg⟩
  ·exact h.kb p hp
theorem RelB.base(h:RelB ρ K l){nb:Nat}(hnb:nb<=l.length)(ha:Agree nb ρ ρ'){ts:List Ty}{a:Tup ts}
 (hv:∀j x,(encs ts a)[j]? = some x->ρ' (nb+j)=x):RelB ρ' (K.bnd nb) (l.take nb++unp ts a) where
 slot j s hs:=by
  have hl:(l.take nb).length=nb:=by simp;omega
  by_cases hj:j<nb
  · rw[List.getElem?_append_left (by omega),List.getElem?_take_of_lt hj]at hs
    obtain⟨h1,h2⟩:=h.slot j s hs
    refine⟨h1,fun hh=>?_⟩
    rw[ha j hj]
    exact h2 ((zba ha fun q hq=>Exp.bnd_mono (by omega) (h1 q hq)).1 hh)
  · rw[List.getElem?_append_right (by omega),hl]at hs
    obtain⟨h1,h2⟩:=zdZ [] ts a _ s hs
    rw[h1]
    refine⟨by simp,fun _=>?_⟩
    have:=hv _ _ h2
    rwa[show nb+(j-nb)=j by omega]at this
 kno p hp hh:=by
  simp only[Kno.bnd,List.mem_filter,Bool.and_eq_true,List.all_eq_true]at hp
  obtain⟨h0,h1,h2⟩:=hp
  exact zdI ha h1 (h.kno p h0 ((zba ha h2).1 hh))
 kb p hp:=by
  simp only[Kno.bnd,List.mem_filter,Bool.and_eq_true,List.all_eq_true]at hp
  obtain⟨h0,h1,h2⟩:=hp
  have:nb<=(l.take nb++unp ts a).length:=by simp;omega
  exact⟨Exp.bnd_mono this h1,fun q hq=>Exp.bnd_mono this (h2 q hq)⟩
theorem RelB.noK(h:RelB ρ K l):RelB ρ [] l:=⟨⟨h.slot,fun p hp=>by cases hp⟩,fun p hp=>by cases hp⟩
theorem RelB.base'(h:RelB ρ K l){nb:Nat}(hnb:nb<=l.length)(ha:Agree nb ρ ρ'){K':Kno}{l':List Slot}(h':RelB ρ' K' l'){ts:List Ty}{a:Tup ts}
 (hv:l'.drop nb=unp ts a):RelB ρ' (K.bnd nb) (l.take nb++unp ts a):=by
 refine h.base hnb ha fun j x hx=>?_
 have hlt:j<(encs ts a).length:=by rw[List.getElem?_eq_some_iff]at hx;exact hx.1
 have hlt':j<(unp ts a).length:=by rw[zbK]at hlt;unfold unp;rw[zen];exact hlt
 have hs:=List.getElem?_eq_getElem hlt'
 obtain⟨h1,h2⟩:=zdZ [] ts a j _ hs
 have h3:l'[nb+j]? = some ((unp ts a)[j]):=by rw[<- List.getElem?_drop,hv];exact hs
 obtain⟨_,h4⟩:=h'.slot _ _ h3
 have h5:=h4 (by rw[show ((unp ts a)[j]).g = [] from h1];trivial)
 rw[h5]
 rw[hx]at h2
 exact (Option.some.inj h2).symm
theorem zjn {I:Nat->Option Body}{nb:Nat}{p:PI}{ex:Ex}(h:Big I p ρ ex ρ'):lowP nb p=true->Agree nb ρ ρ':=by
 induction h with
 |skip=>intro _;exact Agree.refl _ _
 |nil=>intro _;exact Agree.refl _ _
 | @off g s l ρ e ρ' hn hb ih =>
   intro hl
   refine ih ?_
   cases s<;>simp only[lowP,lowS,Bool.and_eq_true]at hl ⊢<;>first|exact hl.2|exact hl
 | set _ hb ih =>
   intro hl
   simp only[lowP,lowS,Bool.and_eq_true]at hl
   exact (zbp (Nat.le_of_ble_eq_true hl.1)).trans (ih hl.2)
 | mov _ hb ih =>
   intro hl
   simp only[lowP,lowS,Bool.and_eq_true]at hl
   exact (zap _ _ _ (Nat.le_of_ble_eq_true hl.1)).trans (ih hl.2)
 |chk _ _ hb ih=>intro hl;exact ih hl
 | call _ _ _ _ hb _ ih =>
   intro hl
   simp only[lowP,lowS,Bool.and_eq_true]at hl
   exact (zap _ _ _ (Nat.le_of_ble_eq_true hl.1)).trans (ih hl.2)
 | prim _ _ _ _ hb ih =>
   intro hl
   simp only[lowP,lowS,Bool.and_eq_true]at hl
   exact (zap _ _ _ (Nat.le_of_ble_eq_true hl.1)).trans (ih hl.2)
 |seq _ _ iha ihb=>intro hl;simp only[lowP,Bool.and_eq_true]at hl;exact (iha hl.1).trans (ihb hl.2)
 |seqOut _ _ iha=>intro hl;simp only[lowP,Bool.and_eq_true]at hl;exact iha hl.1
 |yes _ _ ih=>intro hl;simp only[lowP,Bool.and_eq_true]at hl;exact ih hl.1
 |no _ _ ih=>intro hl;simp only[lowP,Bool.and_eq_true]at hl;exact ih hl.2
 |block _ ih=>intro hl;exact ih hl
 |blockIn _ ih=>intro hl;exact ih hl
 |blockOut _ _ _ ih=>intro hl;exact ih hl
 |loop _ _ iha ihb=>intro hl;exact (iha hl).trans (ihb hl)
 |loopOut _ _ ih=>intro hl;exact ih hl
 |exit=>intro _;exact Agree.refl _ _
 |ret=>intro _;exact Agree.refl _ _
theorem zkH {I:Nat->Option Body}{l:List (Grd × SI)}{ex:Ex}(h:Big I (.sis l) ρ ex ρ'):ex = .normal:=by
 generalize hp:PI.sis l=p at h
 induction h generalizing l with
 |nil=>rfl
 |off _ _ ih=>exact ih rfl
 |set _ _ ih=>exact ih rfl
 |mov _ _ ih=>exact ih rfl
 |chk _ _ _ ih=>exact ih rfl
 |call _ _ _ _ _ _ ih=>exact ih rfl
 |prim _ _ _ _ _ ih=>exact ih rfl
 |_=>cases hp
def AgreeX (nb:Nat)(lv:Nat->Nat)(ex:Ex)(ρ ρ':Env):Prop:=match ex with
 |.normal=>Agree nb ρ ρ'
 |.exit j=>Agree (lv j) ρ ρ'
 |.ret _=>True
theorem AgreeX.after{nb:Nat}{lv:Nat->Nat}{ex:Ex}{ρ1:Env}(hlv:∀j,lv j<=nb)(h:Agree nb ρ ρ1)(k:AgreeX nb lv ex ρ1 ρ'):AgreeX nb lv ex ρ ρ':=by
 cases ex with
 |normal=>exact h.trans k
 |exit j=>exact (h.mono (hlv j)).trans k
 |ret o=>trivial
theorem zbk {I:Nat->Option Body}{nb:Nat}{p:PI}{ex:Ex}(h:Big I p ρ ex ρ'):∀{lv:Nat->Nat},(∀j,lv j<=nb)->lowQ nb lv p=true->AgreeX nb lv ex ρ ρ':=by
 induction h with
 |skip=>intro lv _ _;exact Agree.refl _ _
 |nil=>intro lv _ _;exact Agree.refl _ _
 | @off g s l ρ e ρ' hn hb ih =>
   intro lv hlv hl
   refine ih hlv ?_
   cases s<;>simp only[lowQ,lowS,Bool.and_eq_true]at hl ⊢<;>first|exact hl.2|exact hl
 | set _ hb ih =>
   intro lv hlv hl
   simp only[lowQ,lowS,Bool.and_eq_true]at hl
   exact AgreeX.after hlv (zbp (Nat.le_of_ble_eq_true hl.1)) (ih hlv hl.2)
 | mov _ hb ih =>
   intro lv hlv hl
   simp only[lowQ,lowS,Bool.and_eq_true]at hl
   exact AgreeX.after hlv (zap _ _ _ (Nat.le_of_ble_eq_true hl.1)) (ih hlv hl.2)
 |chk _ _ hb ih=>intro lv hlv hl;exact ih hlv hl
 | call _ _ _ _ hb _ ih =>
   intro lv hlv hl
   simp only[lowQ,lowS,Bool.and_eq_true]at hl
   exact AgreeX.after hlv (zap _ _ _ (Nat.le_of_ble_eq_true hl.1)) (ih hlv hl.2)
 | prim _ _ _ _ hb ih =>
   intro lv hlv hl
   simp only[lowQ,lowS,Bool.and_eq_true]at hl
   exact AgreeX.after hlv (zap _ _ _ (Nat.le_of_ble_eq_true hl.1)) (ih hlv hl.2)
 | @seq a b ρ ρ1 ex ρ2 ha hb iha ihb =>
   intro lv hlv hl
   simp only[lowQ,Bool.or_eq_true,Bool.and_eq_true]at hl
   rcases hl with hl|hl
   · split at hl
     · rename_i l j
       cases hb
       exact zjn ha hl
     ·cases hl
   ·exact AgreeX.after hlv (iha hlv hl.1) (ihb hlv hl.2)
 | @seqOut a b ρ ex ρ1 ha hne iha =>
   intro lv hlv hl
   simp only[lowQ,Bool.or_eq_true,Bool.and_eq_true]at hl
   rcases hl with hl|hl
   · split at hl
     ·exact absurd (zkH ha) hne
     ·cases hl
   ·exact iha hlv hl.1
 |yes _ _ ih=>intro lv hlv hl;simp only[lowQ,Bool.and_eq_true]at hl;exact ih hlv hl.1
 |no _ _ ih=>intro lv hlv hl;simp only[lowQ,Bool.and_eq_true]at hl;exact ih hlv hl.2
 | @block id a ρ ρ1 hb ih =>
   intro lv hlv hl
   simp only[lowQ]at hl
   exact ih (lv:=fun j=>if Nat.beq j id then nb else lv j) (fun j=>by split;exact Nat.le_refl _;exact hlv j) hl
 | @blockIn id a ρ ρ1 hb ih =>
   intro lv hlv hl
   simp only[lowQ]at hl
   have:=ih (lv:=fun j=>if Nat.beq j id then nb else lv j) (fun j=>by split;exact Nat.le_refl _;exact hlv j) hl
   simpa[AgreeX]using this
 | @blockOut id a ρ ex ρ1 hb h1 h2 ih =>
   intro lv hlv hl
   simp only[lowQ]at hl
   have:=ih (lv:=fun j=>if Nat.beq j id then nb else lv j) (fun j=>by split;exact Nat.le_refl _;exact hlv j) hl
   cases ex with
   |normal=>exact this
   | exit j =>
     have hj:¬j=id:=fun e=>h2 (by rw[e])
     simpa[AgreeX,hj]using this
   |ret o=>trivial
 |loop _ _ iha ihb=>intro lv hlv hl;exact AgreeX.after hlv (iha hlv hl) (ihb hlv hl)
 |loopOut _ _ ih=>intro lv hlv hl;exact ih hlv hl
 |exit=>intro lv _ _;exact Agree.refl _ _
 |ret=>intro lv _ _;trivial
theorem zej (hR:RelS ρ K l):∀{g:Grd} {c:Bool} {ob:List Bool},gB K l g=some (c,ob)->(∀b∈ob,b=true)->(holdsG ρ g↔c=true)
 |[],c,ob,h,hob=>by cases h;simp[holdsG]
 | [(e, b)], c, ob, h, hob => by
   simp only[gB]at h
   split at h
   case h_2=>cases h
   rename_i x hx
   split at h
   case h_2=>cases h
   rename_i v hv
   cases h
   have h1:den ρ e=x.x.enc:=zaJ hR e [] _ x hx trivial hob
   rw[EV.as_eq hv]at h1
   simp only[holdsG,and_true,h1,TV.enc,Ty.enc_bool,T.bool.injEq]
   cases b<;>cases v<;>simp
 | (e, b) :: q :: r, c, ob, h, hob => by
   simp only[gB]at h
   split at h
   case h_2=>cases h
   rename_i c' ob' hc'
   split at h
   case h_2=>cases h
   rename_i x hx
   split at h
   case h_2=>cases h
   rename_i v hv
   cases h
   obtain⟨o1,o2⟩:=zat hob
   have h0:=zej hR hc' o1
   rw[holdsG]
   cases c' with
   | false =>
     have:¬holdsG ρ (q::r):=fun hh=>by have:=h0.1 hh;cases this
     simp only[Bool.false_and,Bool.false_eq_true,iff_false]
     exact fun hh=>this hh.2
   | true =>
     have hq:=h0.2 rfl
     have h1:den ρ e=x.x.enc:=zaJ hR e _ _ x hx hq (zbo o2 rfl)
     rw[EV.as_eq hv]at h1
     simp only[hq,and_true,h1,TV.enc,Ty.enc_bool,T.bool.injEq,Bool.true_and]
     cases b<;>cases v<;>simp
theorem zbZ (hR:RelS ρ K l){G:Grd}(hG:holdsG ρ G):∀{es:List Exp} {ts:List Ty} {a:Tup ts} {ob:List Bool},evs K l G es ts=some (a,ob)->(∀b∈ob,b=true)->es.map (den ρ)=encs ts a
 |[],[],a,ob,h,hob=>rfl
 |[],[t],a,ob,h,hob=>by simp[evs]at h
 |[],t::u::r,a,ob,h,hob=>by simp[evs]at h
 |e::es,[],a,ob,h,hob=>by simp[evs]at h
 |e::e'::es,[t],a,ob,h,hob=>by simp[evs]at h
 | [e], [t], a, ob, h, hob => by
   simp only[evs]at h
   split at h
   case h_2=>cases h
   rename_i x hx
   split at h
   case h_2=>cases h
   rename_i v hv
   cases h
   have h1:den ρ e=x.x.enc:=zaJ hR e G _ x hx hG hob
   rw[EV.as_eq hv]at h1
   simp only[List.map_cons,List.map_nil,h1,encs];rfl
 | e :: es, t :: u :: r, a, ob, h, hob => by
   simp only[evs]at h
   split at h
   case h_2=>cases h
   rename_i x hx
   split at h
   case h_2=>cases h
   rename_i v hv
   split at h
   case h_2=>cases h
   rename_i w ob' hw
   cases h
   obtain⟨o1,o2⟩:=zat hob
   have h1:den ρ e=x.x.enc:=zaJ hR e G _ x hx hG o1
   rw[EV.as_eq hv]at h1
   simp only[List.map_cons,h1,encs,zbZ hR hG hw o2];rfl
def TfOk (I:Nat->Option Body)(j:Nat)(F:Fn):Prop:=∀a r,F.f a=some r->CallI I j (encs F.ins a) (encs F.outs r)
theorem zik {I:Nat->Option Body}{g:Grd}{j:Nat}{args:List Exp}{x n:Nat}{s:List (Grd × SI)}{ex:Ex}{outs:List T}(hg:holdsG ρ g)(hc:CallI I j (args.map (den ρ)) outs)(hn:outs.length=n)
 (hb:Big I (.sis s) (updL ρ x outs) ex ρ'):Big I (.sis ((g,.call j args x n)::s)) ρ ex ρ':=by
 rcases hc with⟨p,ρ1,h1,h2⟩|⟨R,h1,h2⟩
 ·exact .call hg h1 h2 hn hb
 ·exact .prim hg h1 h2 hn hb
variable {I:Nat->Option Body}{fs:List Fn}{i:Nat}
theorem zaY (hR:RelS ρ K l):∀{os:List Exp} {ob:List Bool},obE K l os=some ob->(∀b∈ob,b=true)->∀e∈os,den ρ e = .bool true
 |[],ob,h,hob,e,he=>by cases he
 | o :: r, ob, h, hob, e, he => by
   unfold obE at h
   split at h
   ·rename_i heq;cases heq
   · rename_i a b r' heq
     cases heq
     split at h
     · rename_i hk
       rcases List.mem_cons.1 he with rfl|he
       ·exact zcO hR.kno hk (G:=[]) trivial
       ·exact zaY hR h hob e he
     · split at h
       case h_2=>cases h
       rename_i x hx
       split at h
       case h_2=>cases h
       rename_i v hv
       split at h
       case h_2=>cases h
       rename_i l' hl
       cases h
       obtain⟨o1,o2⟩:=zat hob
       have hv1:=o2 v (by simp)
       rcases List.mem_cons.1 he with rfl|he
       · have h1:den ρ (.bin .and a b)=x.x.enc:=zaJ hR _ [] _ x hx trivial o1
         rw[EV.as_eq hv]at h1
         rw[h1,hv1];rfl
       ·exact zaY hR hl (fun b hb=>o2 b (List.mem_cons_of_mem _ hb)) e he
   ·cases h
theorem zdh {K:Kno}(hK:KnoOk ρ K):∀{es:List Exp},(∀o∈(rsL K es).2,den ρ o = .bool true)->(rsL K es).1.map (den ρ)=es.map (den ρ)
 |[],_=>rfl
 | e :: es, h => by
   simp only[rsL]at h ⊢
   rw[List.map_cons,List.map_cons,zee hK fun o ho=>h o (List.mem_append_left _ ho),zdh hK fun o ho=>h o (List.mem_append_right _ ho)]
theorem zd8 {ρ:Env}{K:Kno}{l:List Slot}(hR:RelS ρ K l){x:Nat}:∀{es:List Exp} {ts:List Ty} {j:Nat} {sl:List Slot} {kk:Kno} {ob:List Bool},movA K l x j es ts=some (sl,kk,ob)->(∀b∈ob,b=true) ->
 sl.length=es.length/\(∀(i:Nat) (s:Slot),sl[i]? = some s->s.g = [(.bool false,true)]\/(s.g = []/\(es.map (den ρ))[i]? = some s.x.enc))/\(∀p∈kk,∃(i:Nat) (e:Exp),p=([],defE (j+i) e)/\es[i]? = some e/\e.bnd x=true)
 | [], [], j, sl, kk, ob, h, _ => by
   simp only[movA]at h;cases h
   exact⟨rfl,fun i s hs=>by simp at hs,fun p hp=>by cases hp⟩
 | e :: es, t :: ts, j, sl, kk, ob, h, ho => by
   simp only[movA,zaM]at h
   split at h
   case h_2=>cases h
   rename_i sl0 kk0 ob0 h0
   split at h
   · split at h
     case isFalse=>cases h
     rename_i hb
     cases h
     obtain⟨i1,i2,i3⟩:=zd8 hR h0 ho
     refine⟨by simp[i1],fun i s hs=>?_,fun p hp=>?_⟩
     · cases i with
       |zero=>simp at hs;subst hs;exact .inl rfl
       |succ i=>simpa using i2 i s (by simpa using hs)
     · rcases List.mem_cons.1 hp with rfl|hp
       ·exact⟨0,e,rfl,rfl,hb⟩
       · obtain⟨i,e',k1,k2,k3⟩:=i3 p hp
         exact⟨i+1,e',by rw[k1,show j+1+i=j+(i+1) by omega],by simpa using k2,k3⟩
   · split at h
     case h_2=>cases h
     rename_i v hv
     split at h
     case h_2=>cases h
     rename_i w hw
     cases h
     obtain⟨o1,o2⟩:=zat ho
     obtain⟨i1,i2,i3⟩:=zd8 hR h0 o2
     refine⟨by simp[i1],fun i s hs=>?_,fun p hp=>?_⟩
     · cases i with
       | zero =>
         simp at hs;subst hs
         have h1:den ρ e=v.x.enc:=zaJ hR e [] _ v hv trivial o1
         rw[EV.as_eq hw]at h1
         exact .inr ⟨rfl,by simp[h1]⟩
       |succ i=>simpa using i2 i s (by simpa using hs)
     · obtain⟨i,e',k1,k2,k3⟩:=i3 p hp
       exact⟨i+1,e',by rw[k1,show j+1+i=j+(i+1) by omega],by simpa using k2,k3⟩
 |[],_::_,j,sl,kk,ob,h,_=>by simp[movA]at h
 |_::_,[],j,sl,kk,ob,h,_=>by simp[movA]at h
theorem RelB.mov{ρ:Env}{K:Kno}{l:List Slot}(h:RelB ρ K l){x:Nat}(hx:x<=l.length){es:List Exp}{ts:List Ty}{sl:List Slot}{kk:Kno}{ob:List Bool}(hm:movA K l x x es ts=some (sl,kk,ob))(ho:∀b∈ob,b=true) :
 RelB (updL ρ x (es.map (den ρ))) (kk++K.bnd x) (l.take x++sl):=by
 obtain⟨m1,m2,m3⟩:=zd8 h.toRelS hm ho
 have ha:Agree x ρ (updL ρ x (es.map (den ρ))):=zap _ _ _ (Nat.le_refl _)
 have hb:=h.base (ts:=[]) (a:=()) hx ha (fun j y hy=>by simp[encs]at hy)
 have hl:(l.take x).length=x:=by simp;omega
 have hu:l.take x++unp [] ()=l.take x:=by simp[unp,unpG]
 rw[hu]at hb
 exact {
  slot := fun j s hs => by
   by_cases hj:j<x
   · rw[List.getElem?_append_left (by omega)]at hs
     exact hb.slot j s hs
   · rw[List.getElem?_append_right (by omega),hl]at hs
     rcases m2 _ _ hs with hg|⟨hg,he⟩
     · rw[hg]
       exact⟨fun q hq=>by simp at hq;subst hq;rfl,fun hh=>by have:=hh.1;cases this⟩
     · rw[hg]
       refine⟨by simp,fun _=>?_⟩
       have:=zb5 (es.map (den ρ)) x ρ _ _ he
       rwa[show x+(j-x)=j by omega]at this
  kno:=fun p hp hh=>by
   rcases List.mem_append.1 hp with hp|hp
   · obtain⟨i,e,rfl,k2,k3⟩:=m3 p hp
     show updL ρ x (es.map (den ρ)) (x+i)=den _ e
     rw[zai ha e k3]
     exact zb5 (es.map (den ρ)) x ρ _ _ (by simp[k2])
   ·exact hb.kno p hp hh
  kb := fun p hp => by
   have hle:x<=(l.take x++sl).length:=by simp;omega
   rcases List.mem_append.1 hp with hp|hp
   · obtain⟨i,e,rfl,k2,k3⟩:=m3 p hp
     have hi:i<es.length:=by
      rw[List.getElem?_eq_some_iff]at k2;exact k2.1
     refine⟨?_,by simp⟩
     show (Exp.bnd _ (.var (x+i))&&Exp.bnd _ e)=true
     rw[Bool.and_eq_true]
     refine⟨?_,Exp.bnd_mono hle k3⟩
     show Nat.blt (x+i) _=true
     simp[Nat.blt,m1];omega
   · obtain⟨b1,b2⟩:=hb.kb p hp
     exact⟨Exp.bnd_mono (by simp) b1,fun q hq=>Exp.bnd_mono (by simp) (b2 q hq)⟩ }
theorem za2 (hfs : ∀ j F, j < i -> fs[j]? = some F -> TfOk I j F) {R : Type} {k : Kno -> List Slot -> Option R} {r : R} :
 ∀ (s : List (Grd × SI)) (ts : List Ty) (K : Kno) (l : List Slot) (ρ : Env), RelB ρ K l -> dnS fs i k s ts K l = some r ->
   ∃ρ' K' l',Big I (.sis s) ρ .normal ρ'/\RelB ρ' K' l'/\k K' l'=some r
 |[],ts,K,l,ρ,hR,h=>⟨ρ,K,l,.nil,hR,h⟩
 | (g, .set x e) :: s, ts, K, l, ρ, hR, h => by
   simp only[dnS,zaM]at h
   split at h
   ·cases h
   rename_i t ts
   split at h
   case isFalse=>cases h
   rename_i hc
   simp only[Bool.and_eq_true]at hc
   obtain⟨hx,hgb⟩:=hc
   have hx:=Nat.eq_of_beq_eq_true hx
   subst hx
   split at h
   · split at h
     case h_2=>cases h
     rename_i ob0 hob0
     split at h
     · split at h
       case isFalse=>cases h
       rename_i hbd
       obtain⟨ho,h⟩:=zan h
       have hden:=zee hR.kno (zaY hR.toRelS hob0 ho)
       have hR2 : RelB (upd ρ l.length (den ρ e)) (([], defE l.length (rs K e).1) :: K) (l ++ [⟨[(.bool false, true)], .unit, ()⟩]) := by
        have h1:RelB (upd ρ l.length (den ρ e)) K (l ++ [⟨[(.bool false,true)],.unit,()⟩]) :=
         hR.app (g:=[(.bool false,true)]) (ts:=[.unit]) (a:=()) rfl (zbp (Nat.le_refl _)) (fun hh=>by have:=hh.1;cases this)
        have hag:Agree l.length ρ (upd ρ l.length (den ρ e)):=zbp (Nat.le_refl _)
        exact {
         slot:=h1.slot
         kno:=fun p hp hh=>by
          rcases List.mem_cons.1 hp with rfl|hp
          · show upd ρ l.length (den ρ e) l.length=den _ (rs K e).1
            rw[zai hag _ hbd,hden]
            simp[upd]
          ·exact h1.kno p hp hh
         kb := fun p hp => by
          rcases List.mem_cons.1 hp with rfl|hp
          · refine⟨?_,by simp⟩
            show (Exp.bnd _ (.var l.length)&&Exp.bnd _ (rs K e).1)=true
            rw[Bool.and_eq_true]
            refine⟨?_,Exp.bnd_mono (by simp) hbd⟩
            show Nat.blt l.length _=true
            simp[Nat.blt]
          ·exact h1.kb p hp }
       obtain⟨ρ',K',l',h1,h2,h3⟩:=za2 hfs s ts _ _ _ hR2 h
       exact⟨ρ',K',l',.set trivial h1,h2,h3⟩
     · split at h
       case h_2=>cases h
       rename_i v hv
       split at h
       case h_2=>cases h
       rename_i w hw
       obtain⟨ho0,hA⟩:=zan h
       obtain⟨ho,hB⟩:=zan hA
       have hden:=zee hR.kno (zaY hR.toRelS hob0 ho0)
       have h1:den ρ (rs K e).1=v.x.enc:=zaJ hR.toRelS _ [] _ v hv trivial ho
       rw[EV.as_eq hw,hden]at h1
       have on:RelB (upd ρ l.length (den ρ e)) K (l ++ [⟨[],t,w⟩]):=by
        rw[h1];exact hR.on (ts:=[t]) (a:=w) hgb
       obtain⟨ρ',K',l',h1,h2,h3⟩:=za2 hfs s ts K _ _ on hB
       exact⟨ρ',K',l',.set trivial h1,h2,h3⟩
   · split at h
     case h_2=>cases h
     rename_i v hv
     split at h
     case h_2=>cases h
     rename_i w hw
     split at h
     case h_2=>cases h
     rename_i c ob hc
     have on:holdsG ρ g->(∀b∈v.ob,b=true)->RelB (upd ρ l.length (den ρ e)) K (l ++ [⟨g,t,w⟩]):=by
      intro hg ho
      have h1:den ρ e=v.x.enc:=zaJ hR.toRelS e g _ v hv hg ho
      rw[EV.as_eq hw]at h1
      rw[h1]
      exact hR.on (ts:=[t]) (a:=w) hgb
     obtain⟨ho,hA⟩:=zan h
     obtain⟨ho2,hB⟩:=zan hA
     clear h hA
     have h:=hB
     clear hB
     have hgc:=zej hR.toRelS hc ho
     cases c with
     | true =>
       have hg:=hgc.2 rfl
       obtain⟨ρ',K',l',h1,h2,h3⟩:=za2 hfs s ts K _ _ (on hg (zbo ho2 rfl)) h
       exact⟨ρ',K',l',.set hg h1,h2,h3⟩
     | false =>
       have hg:¬holdsG ρ g:=fun hh=>by have:=hgc.1 hh;cases this
       obtain⟨ρ',K',l',h1,h2,h3⟩:=za2 hfs s ts K _ _ (hR.off (ts:=[t]) (a:=w) hgb hg) h
       exact⟨ρ',K',l',.off hg h1,h2,h3⟩
 | (g, .mov x es) :: s, ts, K, l, ρ, hR, h => by
   simp only[dnS,zaM]at h
   split at h
   case h_2=>cases h
   split at h
   case isFalse=>cases h
   rename_i hx
   have hx:=Nat.le_of_ble_eq_true hx
   split at h
   case h_2=>cases h
   rename_i ob0 hob0
   split at h
   · split at h
     case h_2=>cases h
     rename_i sl kk ob hm
     obtain⟨ho0,hA⟩:=zan h
     obtain⟨ho,hB⟩:=zan hA
     have this:=hR.mov (x:=x) hx hm ho
     rw[zdh hR.kno (zaY hR.toRelS hob0 ho0)]at this
     obtain⟨ρ',K',l',h1,h2,h3⟩:=za2 hfs s _ _ _ _ this hB
     exact⟨ρ',K',l',.mov trivial h1,h2,h3⟩
   split at h
   case h_2=>cases h
   rename_i a ob ha
   obtain⟨ho0,hA⟩:=zan h
   obtain⟨ho,hB⟩:=zan hA
   have hv:=zbZ hR.toRelS (G:=[]) trivial ha ho
   rw[zdh hR.kno (zaY hR.toRelS hob0 ho0)]at hv
   have:=hR.base (ρ':=updL ρ x (es.map (den ρ))) hx (zap _ _ _ (Nat.le_refl _)) (a:=a) (fun j y hy=>by rw[hv];exact zb5 _ _ _ _ _ hy)
   obtain⟨ρ',K',l',h1,h2,h3⟩:=za2 hfs s _ _ _ _ this hB
   exact⟨ρ',K',l',.mov trivial h1,h2,h3⟩
 | (g, .chk e) :: s, ts, K, l, ρ, hR, h => by
   simp only[dnS,zaM]at h
   split at h
   case isFalse=>cases h
   rename_i hb
   simp only[Bool.and_eq_true]at hb
   obtain⟨⟨heb,hgb⟩,hnd⟩:=hb
   split at h
   · split at h
     case h_2=>cases h
     rename_i ob0 hob0
     split at h
     case h_2=>cases h
     rename_i v hv
     split at h
     case h_2=>cases h
     rename_i w hw
     obtain⟨ho0,hA⟩:=zan h
     obtain⟨ho,hB⟩:=zan hA
     split at hB
     case isFalse=>cases hB
     rename_i hc
     have h1:den ρ (rs K e).1=v.x.enc:=zaJ hR.toRelS _ [] _ v hv trivial ho
     rw[EV.as_eq hw,zee hR.kno (zaY hR.toRelS hob0 ho0),hc]at h1
     obtain⟨ρ',K',l',h2,h3,h4⟩:=za2 hfs s _ _ _ _ (hR.know heb hgb fun _=>h1) hB
     exact⟨ρ',K',l',.chk trivial h1 h2,h3,h4⟩
   · split at h
     case h_2=>cases h
     rename_i v hv
     split at h
     case h_2=>cases h
     rename_i w hw
     have val:holdsG ρ g->(∀b∈v.ob,b=true)->den ρ e = .bool w:=by
      intro hg ho
      have h1:den ρ e=v.x.enc:=zaJ hR.toRelS e g _ v hv hg ho
      rw[EV.as_eq hw]at h1;exact h1
     split at h
     case h_2=>cases h
     rename_i gc ob hgc
     obtain⟨ho,hA⟩:=zan h
     obtain⟨ho2,hB⟩:=zan hA
     clear h hA
     have h:=hB
     clear hB
     split at h
     case isFalse=>cases h
     rename_i hc
     have hgg:=zej hR.toRelS hgc ho
     have kk:holdsG ρ g->den ρ e = .bool true:=by
      intro hg
      have e1:=hgg.1 hg
      rw[e1]at hc
      have:=val hg (zbo ho2 e1)
      simp only[Bool.not_true,Bool.false_or]at hc
      rw[hc]at this;exact this
     obtain⟨ρ',K',l',h1,h2,h3⟩:=za2 hfs s _ _ _ _ (hR.know heb hgb kk) h
     by_cases hg:holdsG ρ g
     ·exact⟨ρ',K',l',.chk hg (kk hg) h1,h2,h3⟩
     ·exact⟨ρ',K',l',.off hg h1,h2,h3⟩
 | (g, .call j args x n) :: s, ts, K, l, ρ, hR, h => by
   simp only[dnS,zaM]at h
   split at h
   case isFalse=>cases h
   rename_i hb
   simp only[Bool.and_eq_true]at hb
   obtain⟨⟨hx,hgb⟩,hji⟩:=hb
   have hx:=Nat.eq_of_beq_eq_true hx
   subst hx
   have hji:j<i:=Nat.le_of_ble_eq_true hji
   split at h
   case h_2=>cases h
   rename_i F hF
   split at h
   case isFalse=>cases h
   rename_i hn
   have hn:=Nat.eq_of_beq_eq_true hn
   split at h
   · split at h
     case h_2=>cases h
     rename_i ob0 hob0
     split at h
     case h_2=>cases h
     rename_i a ob ha
     obtain⟨ho0,hA⟩:=zan h
     obtain⟨ho,hB⟩:=zan hA
     cases hq:F.f a with
     |none=>rw[hq]at hB;cases hB
     | some q =>
       rw[hq]at hB
       have hargs:=zbZ hR.toRelS (G:=[]) trivial ha ho
       rw[zdh hR.kno (zaY hR.toRelS hob0 ho0)]at hargs
       obtain⟨ρ',K',l',h1,h2,h3⟩:=za2 hfs s _ _ _ _ (hR.on (g:=[]) (a:=q) hgb) hB
       exact⟨ρ',K',l',zik trivial (by rw[hargs];exact hfs j F hji hF a q hq) (by rw[zbK,hn]) h1,h2,h3⟩
   · split at h
     case h_2=>cases h
     rename_i a ob ha
     have run:holdsG ρ g->(∀b∈ob,b=true)->∀q,F.f a=some q->CallI I j (args.map (den ρ)) (encs F.outs q):=by
      intro hg ho q hq
      rw[zbZ hR.toRelS hg ha ho]
      exact hfs j F hji hF a q hq
     split at h
     case h_2=>cases h
     rename_i c ob' hc
     obtain⟨ho,hA⟩:=zan h
     obtain⟨ho2,hB⟩:=zan hA
     clear h hA
     have h:=hB
     clear hB
     have hgc:=zej hR.toRelS hc ho
     cases c with
     | true =>
       have hg:=hgc.2 rfl
       rw[if_pos rfl]at h
       cases hq:F.f a with
       |none=>rw[hq]at h;cases h
       | some q =>
         rw[hq]at h
         obtain⟨ρ',K',l',h1,h2,h3⟩:=za2 hfs s _ _ _ _ (hR.on (a:=q) hgb) h
         exact⟨ρ',K',l',zik hg (run hg (zbo ho2 rfl) q hq) (by rw[zbK,hn]) h1,h2,h3⟩
     | false =>
       have hg:¬holdsG ρ g:=fun hh=>by have:=hgc.1 hh;cases this
       rw[if_neg (by simp)]at h
       obtain⟨ρ',K',l',h1,h2,h3⟩:=za2 hfs s _ _ _ _ (hR.off (a:=tdflt F.outs) hgb hg) h
       exact⟨ρ',K',l',.off hg h1,h2,h3⟩
theorem ze5 {id m:Nat}:∀{es:List (Nat × Nat)} {k:Nat},findE id es=some (k,m)->es[k]? = some (id,m)
 |[],k,hf=>by simp[findE]at hf
 | e :: es, k, hf => by
   simp only[findE]at hf
   split at hf
   · rename_i he
     have he:=Nat.eq_of_beq_eq_true he
     cases hf;subst he;rfl
   · split at hf
     · rename_i k' m' hk'
       cases hf
       simpa using ze5 hk'
     ·cases hf
def EndsAs {R:Type}(to:List Ty)(kn:Kno->List Slot->Option R)(ke:Nat->List Slot->Option R)(kr:List Slot->Option R)(r:R)(ex:Ex)(ρ':Env):Prop :=
 match ex with
 |.normal=>∃K' l',RelB ρ' K' l'/\kn K' l'=some r
 |.exit id=>∃l',RelB ρ' [] l'/\ke id l'=some r
 |.ret outs=>∃a:Tup to,outs=encs to a/\kr (unp to a)=some r
theorem zkm (to : List Ty) (hfs : ∀ j F, j < i -> fs[j]? = some F -> TfOk I j F) : ∀ (p : PI) {R : Type} (h : Ann) (K : Kno) (l : List Slot) (kn : Kno -> List Slot -> Option R) (ke : Nat -> List Slot -> Option R) (kr : List Slot -> Option R) (r : R) (ρ : Env),
 RelB ρ K l->dn fs i to p h K l kn ke kr=some r->∃ex ρ',Big I p ρ ex ρ'/\EndsAs to kn ke kr r ex ρ':=by
 intro p
 induction p with
 | skip =>
   intro R h K l kn ke kr r ρ hR hd
   simp only[dn,zaM]at hd
   exact⟨.normal,ρ,.skip,K,l,hR,hd⟩
 | sis s =>
   intro R h K l kn ke kr r ρ hR hd
   cases h with
   | sis ts =>
     simp only[dn,zaM]at hd
     obtain⟨ρ',K',l',h1,h2,h3⟩:=za2 hfs s ts K l ρ hR hd
     exact⟨.normal,ρ',h1,K',l',h2,h3⟩
   |_=>simp only[dn,zaM]at hd;cases hd
 | seq a b iha ihb =>
   intro R h K l kn ke kr r ρ hR hd
   cases h with
   | seq ha hb =>
     simp only[dn,zaM]at hd
     obtain⟨ex,ρ1,h1,h2⟩:=iha ha K l _ ke kr r ρ hR hd
     cases ex with
     | normal =>
       obtain⟨K',l',h3,h4⟩:=h2
       obtain⟨ex,ρ2,h5,h6⟩:=ihb hb K' l' kn ke kr r ρ1 h3 h4
       exact⟨ex,ρ2,.seq h1 h5,h6⟩
     |exit id=>exact⟨_,ρ1,.seqOut h1 (by simp),h2⟩
     |ret o=>exact⟨_,ρ1,.seqOut h1 (by simp),h2⟩
   |_=>simp only[dn,zaM]at hd;cases hd
 | cond e a b iha ihb =>
   intro R h K l kn ke kr r ρ hR hd
   cases h with
   | cond J esc ha hb =>
     simp only[dn,zaM]at hd
     split at hd
     case h_2=>cases hd
     rename_i x hx
     split at hd
     case h_2=>cases hd
     rename_i c hc
     have val:(∀b∈x.ob,b=true)->den ρ e = .bool c:=by
      intro ho
      have h1:den ρ e=x.x.enc:=zaJ hR.toRelS e [] _ x hx trivial ho
      rw[EV.as_eq hc]at h1;exact h1
     split at hd
     · obtain⟨ho,hd⟩:=zan hd
       have hv:=val ho
       cases c with
       | true =>
         rw[if_pos rfl]at hd
         obtain⟨ex,ρ1,h1,h2⟩:=iha ha K l kn ke kr r ρ hR hd
         exact⟨ex,ρ1,.yes hv h1,h2⟩
       | false =>
         rw[if_neg (by simp)]at hd
         obtain⟨ex,ρ1,h1,h2⟩:=ihb hb K l kn ke kr r ρ hR hd
         exact⟨ex,ρ1,.no hv h1,h2⟩
     · rename_i nb ts
       split at hd
       case isFalse=>cases hd
       rename_i hcond
       simp only[Bool.and_eq_true]at hcond
       obtain⟨⟨hnb,la⟩,lb⟩:=hcond
       have hnb:=Nat.le_of_ble_eq_true hnb
       have main:∀(p:PI) (hp:Ann) (lp:lowQ nb (fun _=>0) p=true) (ih:∀{R:Type} (h:Ann) (K:Kno) (l:List Slot) (kn:Kno->List Slot->Option R) (ke:Nat->List Slot->Option R) (kr:List Slot->Option R) (r:R) (ρ:Env),
        RelB ρ K l->dn fs i to p h K l kn ke kr=some r->∃ex ρ',Big I p ρ ex ρ'/\EndsAs to kn ke kr r ex ρ'),
        (dn fs i to p hp K l (fun _ ρ'=>match packs ts (ρ'.drop nb) with
         |some s=>kn (K.bnd nb) (l.take nb++unp ts s)
         |none=>none) ke kr=some r)->∃ex ρ',Big I p ρ ex ρ'/\EndsAs to kn ke kr r ex ρ':=by
        intro p hp lp ih hd
        obtain⟨ex,ρ1,h1,h2⟩:=ih hp K l _ ke kr r ρ hR hd
        refine⟨ex,ρ1,h1,?_⟩
        cases ex with
        | normal =>
          obtain⟨K',l',h3,h4⟩:=h2
          try dsimp only at h4
          split at h4
          case h_2=>cases h4
          rename_i s hs
          exact⟨_,_,hR.base' hnb (zbk h1 (fun _=>Nat.zero_le _) lp) h3 (zaS hs),h4⟩
        |exit id=>exact h2
        |ret o=>exact h2
       have main2:∀(p:PI) (hp:Ann) (lp:lowQ nb (fun _=>0) p=true) (ih:∀{R:Type} (h:Ann) (K:Kno) (l:List Slot) (kn:Kno->List Slot->Option R) (ke:Nat->List Slot->Option R) (kr:List Slot->Option R) (r:R) (ρ:Env),
        RelB ρ K l->dn fs i to p h K l kn ke kr=some r->∃ex ρ',Big I p ρ ex ρ'/\EndsAs to kn ke kr r ex ρ') (s:Tup ts),
        (dn fs i to p hp K l (fun _ ρ'=>packs ts (ρ'.drop nb)) (fun _ _=>none) (fun _=>none)=some s)->kn (K.bnd nb) (l.take nb++unp ts s)=some r->∃ex ρ',Big I p ρ ex ρ'/\EndsAs to kn ke kr r ex ρ':=by
        intro p hp lp ih s hd hk
        obtain⟨ex,ρ1,h1,h2⟩:=ih hp K l _ _ _ s ρ hR hd
        refine⟨ex,ρ1,h1,?_⟩
        cases ex with
        | normal =>
          obtain⟨K',l',h3,h4⟩:=h2
          exact⟨_,_,hR.base' hnb (zbk h1 (fun _=>Nat.zero_le _) lp) h3 (zaS h4),hk⟩
        |exit id=>obtain⟨_,_,h4⟩:=h2;cases h4
        |ret o=>obtain⟨_,_,h4⟩:=h2;cases h4
       split at hd
       · obtain⟨ho,hd⟩:=zan hd
         have hv:=val ho
         cases c with
         | true =>
           rw[if_pos rfl]at hd
           obtain⟨ex,ρ1,h1,h2⟩:=main a ha la iha hd
           exact⟨ex,ρ1,.yes hv h1,h2⟩
         | false =>
           rw[if_neg (by simp)]at hd
           obtain⟨ex,ρ1,h1,h2⟩:=main b hb lb ihb hd
           exact⟨ex,ρ1,.no hv h1,h2⟩
       · obtain⟨ho,hd⟩:=zan hd
         have hv:=val ho
         cases c with
         | true =>
           rw[if_pos rfl]at hd
           rw[Option.bind_eq_some_iff]at hd
           obtain⟨s,hs,hd⟩:=hd
           obtain⟨ex,ρ1,h1,h2⟩:=main2 a ha la iha s hs hd
           exact⟨ex,ρ1,.yes hv h1,h2⟩
         | false =>
           rw[if_neg (by simp)]at hd
           rw[Option.bind_eq_some_iff]at hd
           obtain⟨s,hs,hd⟩:=hd
           obtain⟨ex,ρ1,h1,h2⟩:=main2 b hb lb ihb s hs hd
           exact⟨ex,ρ1,.no hv h1,h2⟩
   |_=>simp only[dn,zaM]at hd;cases hd
 | block id a ih =>
   intro R h K l kn ke kr r ρ hR hd
   cases h with
   | block J esc ha =>
     simp only[dn,zaM]at hd
     split at hd
     · obtain⟨ex,ρ1,h1,h2⟩:=ih ha K l _ _ kr r ρ hR hd
       cases ex with
       |normal=>exact⟨.normal,ρ1,.block h1,h2⟩
       | exit id' =>
         obtain⟨l',h3,h4⟩:=h2
         try dsimp only at h4
         split at h4
         · rename_i he
           have he:=Nat.eq_of_beq_eq_true he
           subst he
           exact⟨.normal,ρ1,.blockIn h1,[],l',h3,h4⟩
         · rename_i hne
           exact⟨_,ρ1,.blockOut h1 (by simp) (fun hh=>by cases hh;simp at hne),l',h3,h4⟩
       |ret o=>exact⟨_,ρ1,.blockOut h1 (by simp) (by simp),h2⟩
     · rename_i nb ts
       split at hd
       case isFalse=>cases hd
       rename_i hcond
       simp only[Bool.and_eq_true]at hcond
       obtain⟨hnb,la⟩:=hcond
       have hnb:=Nat.le_of_ble_eq_true hnb
       split at hd
       · obtain⟨ex,ρ1,h1,h2⟩:=ih ha K l _ _ kr r ρ hR hd
         have hq:=zbk h1 (lv:=fun j=>if Nat.beq j id then nb else 0) (fun j=>by split;exact Nat.le_refl _;exact Nat.zero_le _) la
         have fin:∀{K':Kno} {l':List Slot},Agree nb ρ ρ1->RelB ρ1 K' l'->(match packs ts (l'.drop nb) with
          |some s=>kn (K.bnd nb) (l.take nb++unp ts s)
          |none=>none)=some r->EndsAs to kn ke kr r .normal ρ1:=by
          intro K' l' hag h3 h4
          split at h4
          case h_2=>cases h4
          rename_i s hs
          exact⟨_,_,hR.base' hnb hag h3 (zaS hs),h4⟩
         cases ex with
         | normal =>
           obtain⟨K',l',h3,h4⟩:=h2
           exact⟨.normal,ρ1,.block h1,fin hq h3 h4⟩
         | exit id' =>
           obtain⟨l',h3,h4⟩:=h2
           try dsimp only at h4
           split at h4
           · rename_i he
             have he:=Nat.eq_of_beq_eq_true he
             subst he
             exact⟨.normal,ρ1,.blockIn h1,fin (by simpa[AgreeX]using hq) h3 h4⟩
           · rename_i hne
             exact⟨_,ρ1,.blockOut h1 (by simp) (fun hh=>by cases hh;simp at hne),l',h3,h4⟩
         |ret o=>exact⟨_,ρ1,.blockOut h1 (by simp) (by simp),h2⟩
       · rw[Option.bind_eq_some_iff]at hd
         obtain⟨s,hs,hd⟩:=hd
         obtain⟨ex,ρ1,h1,h2⟩:=ih ha K l _ _ _ s ρ hR hs
         have hq:=zbk h1 (lv:=fun j=>if Nat.beq j id then nb else 0) (fun j=>by split;exact Nat.le_refl _;exact Nat.zero_le _) la
         have fin:∀{K':Kno} {l':List Slot},Agree nb ρ ρ1->RelB ρ1 K' l'->packs ts (l'.drop nb)=some s->EndsAs to kn ke kr r .normal ρ1:=by
          intro K' l' hag h3 h4
          exact⟨_,_,hR.base' hnb hag h3 (zaS h4),hd⟩
         cases ex with
         | normal =>
           obtain⟨K',l',h3,h4⟩:=h2
           exact⟨.normal,ρ1,.block h1,fin hq h3 h4⟩
         | exit id' =>
           obtain⟨l',h3,h4⟩:=h2
           try dsimp only at h4
           split at h4
           · rename_i he
             have he:=Nat.eq_of_beq_eq_true he
             subst he
             exact⟨.normal,ρ1,.blockIn h1,fin (by simpa[AgreeX]using hq) h3 h4⟩
           ·cases h4
         |ret o=>obtain⟨_,_,h4⟩:=h2;cases h4
   |_=>simp only[dn,zaM]at hd;cases hd
 | loop a ih =>
   intro R h K l kn ke kr r ρ hR hd
   cases h with
   | loop nb ts es L ha =>
     simp only[dn,zaM]at hd
     split at hd
     case isFalse=>cases hd
     rename_i hcond
     simp only[Bool.and_eq_true,List.all_eq_true]at hcond
     obtain⟨⟨hnb,la⟩,hes⟩:=hcond
     have hnb:=Nat.le_of_ble_eq_true hnb
     have hlv:∀j,lvE es j<=nb:=by
      intro j
      unfold lvE
      split
      · rename_i k m hf
        exact Nat.le_of_ble_eq_true (hes _ (List.mem_of_getElem? (ze5 hf)))
      ·exact Nat.zero_le _
     split at hd
     case h_2=>cases hd
     rename_i s0 hs0
     rw[Option.bind_eq_some_iff]at hd
     obtain⟨x,hx,hd⟩:=hd
     obtain⟨n,hn⟩:=zcI.1 hx
     suffices key:∀ρ2,Agree nb ρ ρ2->RelB ρ2 (K.bnd nb) (l.take nb++unp ts s0)->∃ex ρ',Big I (.loop a) ρ2 ex ρ'/\EndsAs to kn ke kr r ex ρ' from
      key ρ (Agree.refl _ _) (hR.base' hnb (Agree.refl _ _) hR (zaS hs0))
     clear hs0 hx
     induction n generalizing s0 with
      |zero=>cases hn
      | succ n ihn =>
        intro ρ2 hag hR2
        simp only[loopN]at hn
        have outw:∀{ρ3:Env} {l':List Slot} (k m:Nat) (id:Nat),findE id es=some (k,m)->RelB ρ3 [] l'->Agree m ρ ρ3->xin L k (l'.drop m)=some x->EndsAs to kn ke kr r (.exit id) ρ3:=by
         intro ρ3 l' k m id hf h3 hag3 hxin
         obtain⟨_,t,h6,a',h7⟩:=ziv (R:=Unit) (fun _ _=>none) hxin
         rw[(ziv _ hxin).1]at hd
         have hk:=ze5 hf
         rw[hk]at hd
         simp only at hd
         have hm:m<=nb:=Nat.le_of_ble_eq_true (hes _ (List.mem_of_getElem? hk))
         refine⟨_,(hR.base' (nb:=m) (by omega) hag3 h3 h7).noK,?_⟩
         rw[<- h7];exact hd
        split at hn
        · rename_i s' hf
          obtain⟨ex,ρ3,h1,h2⟩:=ih _ _ _ _ _ _ _ ρ2 hR2 hf
          have hq:=zbk h1 hlv la
          cases ex with
          | normal =>
            have hag3:Agree nb ρ ρ3:=hag.trans hq
            obtain⟨K',l',h3,h4⟩:=h2
            try dsimp only at h4
            split at h4
            case h_2=>cases h4
            rename_i s2 hs2
            cases h4
            obtain⟨ex,ρ4,h5,h6⟩:=ihn _ hn ρ3 hag3 (hR.base' hnb hag3 h3 (zaS hs2))
            exact⟨ex,ρ4,.loop h1 h5,h6⟩
          | exit id =>
            obtain⟨l',h3,h4⟩:=h2
            try dsimp only at h4
            split at h4
            · split at h4
              ·cases h4
              ·cases h4
            ·cases h4
          | ret o =>
            obtain⟨_,_,h4⟩:=h2
            try dsimp only at h4
            split at h4
            ·cases h4
            ·cases h4
        · rename_i x' hf
          cases hn
          obtain⟨ex,ρ3,h1,h2⟩:=ih _ _ _ _ _ _ _ ρ2 hR2 hf
          have hq:=zbk h1 hlv la
          cases ex with
          | normal =>
            obtain⟨K',l',h3,h4⟩:=h2
            try dsimp only at h4
            split at h4
            ·cases h4
            ·cases h4
          | exit id =>
            obtain⟨l',h3,h4⟩:=h2
            try dsimp only at h4
            split at h4
            · rename_i k m hkm
              split at h4
              · rename_i x2 hx2
                cases h4
                have hm2:lvE es id=m:=by unfold lvE;rw[hkm]
                have hq:Agree (lvE es id) ρ2 ρ3:=hq
                rw[hm2]at hq
                exact⟨_,ρ3,.loopOut h1 (by simp),outw k m id hkm h3 ((hag.mono (hm2▸hlv id)).trans hq) hx2⟩
              ·cases h4
            ·cases h4
          | ret o =>
            obtain⟨a',h3,h4⟩:=h2
            try dsimp only at h4
            split at h4
            · rename_i x2 hx2
              cases h4
              rw[(ziv _ hx2).1]at hd
              rw[List.getElem?_eq_none (Nat.le_refl _)]at hd
              exact⟨_,ρ3,.loopOut h1 (by simp),a',h3,hd⟩
            ·cases h4
        ·cases hn
   |_=>simp only[dn,zaM]at hd;cases hd
 | exit id =>
   intro R h K l kn ke kr r ρ hR hd
   simp only[dn,zaM]at hd
   exact⟨_,ρ,.exit,l,hR.noK,hd⟩
 | ret es =>
   intro R h K l kn ke kr r ρ hR hd
   simp only[dn,zaM]at hd
   split at hd
   case h_2=>cases hd
   rename_i a ob ha
   obtain⟨ho,hd⟩:=zan hd
   refine⟨_,ρ,.ret,a,?_,hd⟩
   exact zbZ (G:=[]) hR.toRelS trivial ha ho
theorem zl8 {p:PI}{h:Ann}{F:Fn}(hfs:∀j F,j<i->fs[j]? = some F->TfOk I j F)(hp:I i=some (.code p))(hF:∀a,F.f a=dnFn fs i p h F.ins F.outs a):TfOk I i F:=by
 intro a r hr
 rw[hF]at hr
 have hR:RelB (envOf (encs F.ins a)) [] (unp F.ins a):=by
  have h0:RelB (fun _=>T.hole) [] []:=⟨⟨fun j s hs=>by simp at hs,fun p hp=>by cases hp⟩,fun p hp=>by cases hp⟩
  have:=h0.base (nb:=0) (ρ':=envOf (encs F.ins a)) (Nat.le_refl _) (fun x hx=>by omega) (ts:=F.ins) (a:=a) (fun j x hx=>by
   simp only[envOf,List.getD_eq_getElem?_getD,Nat.zero_add,hx];rfl)
  exact this
 obtain⟨ex,ρ',h1,h2⟩:=zkm F.outs hfs p h [] _ _ _ _ r _ hR hr
 cases ex with
 |normal=>obtain⟨_,_,_,h4⟩:=h2;cases h4
 |exit id=>obtain⟨_,_,h4⟩:=h2;cases h4
 | ret outs =>
   obtain⟨b,h3,h4⟩:=h2
   have e:=zaS h4
   have hb:b=r:=by
    have : ∀ (ts : List Ty) (x y : Tup ts), unp ts x = unp ts y -> x = y := by
     intro ts
     induction ts with
     |nil=>intro x y _;rfl
     | cons t ts ih =>
       cases ts with
       | nil =>
         intro x y hxy
         have:(⟨[],t,x⟩:Slot) = ⟨[],t,y⟩:=by simpa[unp,unpG]using hxy
         cases this;rfl
       | cons u ts =>
         intro x y hxy
         obtain⟨x1,x2⟩:=x
         obtain⟨y1,y2⟩:=y
         have h:=List.cons.inj (show (⟨[],t,x1⟩:Slot)::unp (u::ts) x2 = ⟨[],t,y1⟩::unp (u::ts) y2 from hxy)
         have h1:=h.1
         cases h1
         rw[ih x2 y2 h.2]
    exact this _ _ _ e
   subst hb
   rw[h3]at h1
   exact .inl ⟨p,ρ',hp,h1⟩
def AllFn (fs:List Fn):Nat->List Fn->List PI->List Ann->Prop
 |_,[],_,_=>True
 |k,F::Fs,p::ps,h::hs=>(∀a,F.f a=dnFn fs k p h F.ins F.outs a)/\AllFn fs (k+1) Fs ps hs
 |_,_::_,_,_=>False
theorem AllFn.get{fs:List Fn}:∀{Fs:List Fn} {k:Nat} {ps:List PI} {hs:List Ann},AllFn fs k Fs ps hs->∀j F,Fs[j]? = some F->∃p h,ps[j]? = some p/\∀a,F.f a=dnFn fs (k+j) p h F.ins F.outs a
 |[],_,_,_,_,j,F,hj=>by simp at hj
 |G::Fs,k,[],hs,h,j,F,hj=>h.elim
 |G::Fs,k,p::ps,[],h,j,F,hj=>h.elim
 | G :: Fs, k, p :: ps, a :: hs, h, j, F, hj => by
   cases j with
   |zero=>simp at hj;subst hj;exact⟨p,a,rfl,h.1⟩
   | succ j =>
     obtain⟨q,b,h1,h2⟩:=h.2.get j F (by simpa using hj)
     exact⟨q,b,by simpa using h1,by rw[show k+(j+1)=k+1+j by omega];exact h2⟩
theorem zl1 {fs:List Fn}{ps:List PI}{hs:List Ann}(h:AllFn fs 0 fs ps hs):∀j F,fs[j]? = some F->TfOk (sysOf ps) j F:=by
 intro j
 induction j using Nat.strongRecOn with
 | _ j ih =>
   intro F hF
   obtain⟨p,a,h1,h2⟩:=h.get j F hF
   rw[Nat.zero_add]at h2
   exact zl8 (fun k G hk hG=>ih k hk G hG) (by simp only[sysOf,h1];rfl) h2
end Gp
