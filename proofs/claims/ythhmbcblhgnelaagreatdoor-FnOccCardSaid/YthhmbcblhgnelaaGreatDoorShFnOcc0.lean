/- Sh: typed functions of Go functions and what is shown of them: the part that this statement needs. -/
import Derived.Test.YthhmbcblhgnelaaGreatDoorShBase
import Derived.IntWalk
set_option linter.unusedVariables false
set_option linter.unusedSimpArgs false
namespace Sh
open Go
theorem zae {x:Int}(h1:-9223372036854775808<=x)(h2:x<=9223372036854775807):i64 x=x:=IntWalk.i64_in x ⟨h1,h2⟩
theorem zk2 {x:Int}(h1:0<=x)(h2:x<=18446744073709551615):u64 x=x:=IntWalk.u64_in x ⟨h1,h2⟩
def Ok {A:Type}(m:Option A)(Q:A->Prop):Prop:=∃a,m=some a/\Q a
theorem Ok.ret{A:Type}{a:A}{Q:A->Prop}(h:Q a):Ok (some a) Q:=⟨a,rfl,h⟩
theorem Ok.bind{A B:Type}{m:Option A}{f:A->Option B}{P:A->Prop}{Q:B->Prop}(h:Ok m P)(k:∀a,P a->Ok (f a) Q):Ok (m.bind f) Q:=by
 obtain⟨a,rfl,ha⟩:=h
 exact k a ha
theorem Ok.mono{A:Type}{m:Option A}{P Q:A->Prop}(h:Ok m P)(k:∀a,P a->Q a):Ok m Q:=by
 obtain⟨a,h1,h2⟩:=h
 exact⟨a,h1,k a h2⟩
theorem Ok.chk{A:Type}{c:Bool}{m:Option A}{Q:A->Prop}(h:c=true)(k:Ok m Q):Ok (chk c m) Q:=by rw[zfK h];exact k
theorem Ok.ite{A:Type}{c:Prop}[Decidable c]{a b:Option A}{Q:A->Prop}(h:c->Ok a Q)(k:¬c->Ok b Q):Ok (if c then a else b) Q:=by
 split
 ·exact h ‹_›
 ·exact k ‹_›
theorem Ok.of_eq{A:Type}{m:Option A}{a:A}(h:Ok m (· = a)):m=some a:=by obtain⟨b,h1,rfl⟩:=h;exact h1
theorem zj9 {A:Type}(c:Prop)[Decidable c](a b:A):(if c then some a else some b)=some (if c then a else b):=by split<;>rfl
theorem zfT (c:Prop)[Decidable c](a b:Bool):(if c then some a else some b)=some (if c then a else b):=zj9 c a b
theorem zdB (c x:Bool):(if c then true else x)=(c||x):=by cases c<;>rfl
theorem zgq (c x:Bool):(if c then x else false)=(c&&x):=by cases c<;>rfl
theorem zkV {R:Type}(a b:Bool)(k:Option R):chk (a&&b) k=chk a (chk b k):=by cases a<;>rfl
theorem zaz {R:Type}{p:Prop}[Decidable p](h:p)(k:Option R):chk (decide p) k=k:=zfK (decide_eq_true h) k
theorem zak {p:Prop}[Decidable p](h:p):decide p=true:=decide_eq_true h
theorem zbe {p:Prop}[Decidable p](h:¬p):decide p=false:=decide_eq_false h
theorem bind_some{A B:Type}(a:A)(f:A->Option B):(Option.some a).bind f=f a:=rfl
theorem Cc:((∀h:Decidable True,@decide True h=true)/\(∀h:Decidable False,@decide False h=false))/\(∀{x:Int},-9223372036854775808<=x->x<=9223372036854775807->i64 x=x)/\(∀{R:Type} (a b:Bool) (k:Option R),chk (a&&b) k=chk a (chk b k)) /\
 (∀{R:Type} {p:Prop} [Decidable p],p->∀(k:Option R),chk (decide p) k=k)/\(∀{R:Type} (k:Option R),chk true k=k)/\(∀{p:Prop} [Decidable p],p->decide p=true)/\(∀{p:Prop} [Decidable p],¬p->decide p=false) /\
 ((false=true)=False)/\((!true)=false)/\((!false)=true)/\(∀b:Bool,(b&&b)=b)/\(∀b:Bool,(b&&false)=false)/\(∀b:Bool,(false&&b)=false)/\(∀b:Bool,(b&&true)=b)/\(∀b:Bool,(true&&b)=b) /\
 (∀b:Bool,(b||false)=b)/\(∀b:Bool,(false||b)=b)/\(∀b:Bool,(b||true)=true)/\(∀b:Bool,(true||b)=true)/\(∀{A B:Type} (a:A) (f:A->Option B),(Option.some a).bind f=f a)/\(∀n:Nat,((n:Int)).toNat=n) :=
 ⟨⟨decide_true,decide_false⟩,fun h k=>zae h k,zkV,fun h k=>zaz h k,zaa,fun h=>zak h,fun h=>zbe h,Bool.false_eq_true,rfl,rfl,Bool.and_self,Bool.and_false,Bool.false_and,Bool.and_true,Bool.true_and,Bool.or_false,Bool.false_or,Bool.or_true,Bool.true_or,bind_some,Int.toNat_natCast⟩
theorem zac {A B:Type}{m:Option A}{a:A}{g:A->Option B}{b:Option B}(h:m=some a)(k:g a=b):m.bind g=b:=by rw[h];exact k
theorem ziR {σ X:Type}{f:σ->Option (σ ⊕ X)}{Q:X->Prop}(Inv:σ->Prop)(μ:σ->Nat)
 (step:∀s,Inv s->Ok (f s) (fun o=>match o with|.inl s'=>Inv s'/\μ s'<μ s|.inr x=>Q x)) {s:σ} (hs:Inv s):Ok (loopM f s) Q:=by
 have key:∀n s,μ s=n->Inv s->Ok (loopM f s) Q:=by
  intro n
  induction n using Nat.strongRecOn with
  | _ n ih =>
    intro s hn hs
    obtain⟨o,h1,h2⟩:=step s hs
    rw[zaK,h1]
    cases o with
    |inl s'=>exact ih (μ s') (by have:=h2.2;omega) s' rfl h2.1
    |inr x=>exact⟨x,rfl,h2⟩
 exact key _ s rfl hs
theorem zi8 {σ X:Type}{f:σ->Option (σ ⊕ X)}(st:Nat->σ)(n:Nat)(x:X)(hs:∀k,k<n->f (st k)=some (.inl (st (k+1))))(he:f (st n)=some (.inr x)):loopM f (st 0)=some x:=by
 have key:∀m k,k+m=n->loopM f (st k)=some x:=by
  intro m
  induction m with
  |zero=>intro k hk;rw[zaK,show k=n by omega,he]
  |succ m ih=>intro k hk;rw[zaK,hs k (by omega)];exact ih (k+1) (by omega)
 exact key n 0 (by omega)
theorem zf3 {σ X:Type}{f:σ->Option (σ ⊕ X)}(st:Nat->σ)(n:Nat)(out:Nat->Option X)(xe:X)
 (hs:∀k,k<n->f (st k)=some (match out k with|none=>.inl (st (k+1))|some x=>.inr x)) (he:f (st n)=some (.inr xe)) :
 loopM f (st 0)=some (((List.range n).findSome? out).getD xe):=by
 have key:∀m k,k+m=n->loopM f (st k)=some (((List.range' k m).findSome? out).getD xe):=by
  intro m
  induction m with
  |zero=>intro k hk;rw[zaK,show k=n by omega,he];rfl
  | succ m ih =>
    intro k hk
    rw[zaK,hs k (by omega),List.range'_succ,List.findSome?_cons]
    cases h:out k with
    |none=>exact ih (k+1) (by omega)
    |some x=>rfl
 have:=key n 0 (by omega)
 rwa[List.range_eq_range']
theorem zdV {X:Type}(p:Nat->Bool)(x xe:X):∀l:List Nat,((l.findSome? fun k=>if p k then some x else none).getD xe)=if l.any p then x else xe
 |[]=>rfl
 | a :: l => by
   rw[List.findSome?_cons,List.any_cons]
   cases h:p a with
   |true=>simp
   |false=>simpa using zdV p x xe l
theorem zeb {σ X:Type}{f:σ->Option (σ ⊕ X)}(st:Nat->σ)(n:Nat)(p:Nat->Bool)(x xe:X)
 (hs:∀k,k<n->f (st k)=some (if p k then .inr x else .inl (st (k+1)))) (he:f (st n)=some (.inr xe)) :
 loopM f (st 0)=some (if (List.range n).any p then x else xe):=by
 rw[zf3 st n (fun k=>if p k then some x else none) xe (fun k hk=>by rw[hs k hk];cases p k<;>rfl) he,zdV]
theorem zah {σ X:Type}{f:σ->Option (σ ⊕ X)}{s0:σ}(st:Nat->σ)(n:Nat)(x:X)(h0:s0=st 0)(hs:∀k,k<n->f (st k)=some (.inl (st (k+1))))(he:f (st n)=some (.inr x)):loopM f s0=some x:=by
 rw[h0];exact zi8 st n x hs he
theorem zau {σ X:Type}{f:σ->Option (σ ⊕ X)}{s0:σ}(st:Nat->σ)(n:Nat)(p:Nat->Bool)(x xe:X)(h0:s0=st 0)
 (hs:∀k,k<n->f (st k)=some (if p k then .inr x else .inl (st (k+1)))) (he:f (st n)=some (.inr xe)) :
 loopM f s0=some (if (List.range n).any p then x else xe):=by
 rw[h0];exact zeb st n p x xe hs he
theorem zcT {X:Type}(p:Nat->Bool)(g:Nat->X)(xe:X):∀l:List Nat,((l.findSome? fun k=>if p k then some (g k) else none).getD xe)=match l.find? p with|some k=>g k|none=>xe
 |[]=>rfl
 | a :: l => by
   rw[List.findSome?_cons,List.find?_cons]
   cases h:p a with
   |true=>simp
   |false=>simpa using zcT p g xe l
theorem zda {σ X:Type}{f:σ->Option (σ ⊕ X)}{s0:σ}(st:Nat->σ)(n:Nat)(p:Nat->Bool)(g:Nat->X)(xe:X)(h0:s0=st 0)
 (hs:∀k,k<n->f (st k)=some (if p k then .inr (g k) else .inl (st (k+1)))) (he:f (st n)=some (.inr xe)) :
 loopM f s0=some (match (List.range n).find? p with|some k=>g k|none=>xe):=by
 rw[h0,zf3 st n (fun k=>if p k then some (g k) else none) xe (fun k hk=>by rw[hs k hk];cases p k<;>rfl) he,zcT]
theorem zcR {n:Nat}{p:Nat->Bool}:(List.range n).any p=true ↔ ∃k,k<n/\p k=true:=by simp
theorem zal {n:Nat}{p:Nat->Bool}:(List.range n).any p=false ↔ ∀k,k<n->p k=false:=by simp
theorem zaq {A:Type}(l:List A)(d:A){k:Nat}(h:k<l.length):l.take (k+1)=l.take k ++ [l.getD k d]:=by
 rw[List.take_succ_eq_append_getElem h,List.getD_eq_getElem?_getD,List.getElem?_eq_getElem h];rfl
theorem zaf {A:Type}{l:List A}{k:Nat}(h:k<l.length)(d:A):l.getD k d∈l:=by
 rw[List.getD_eq_getElem?_getD,List.getElem?_eq_getElem h];exact List.getElem_mem h
theorem zk5 {A:Type}[DecidableEq A](d:A){a b:List A}(h:a.length=b.length):((List.range a.length).any fun k=>!decide (a.getD k d=b.getD k d)) = !decide (a=b):=by
 rw[Bool.eq_iff_iff,zcR]
 simp only[Bool.not_eq_true',decide_eq_false_iff_not]
 constructor
 ·rintro⟨k,hk,hne⟩ e;exact hne (by rw[e])
 · intro hne
   refine Classical.byContradiction fun hn=>hne (List.ext_getElem? fun i=>?_)
   by_cases hi:i<a.length
   · have:a.getD i d=b.getD i d:=Classical.byContradiction fun hc=>hn ⟨i,hi,hc⟩
     rw[List.getD_eq_getElem?_getD,List.getD_eq_getElem?_getD]at this
     rw[List.getElem?_eq_getElem hi,List.getElem?_eq_getElem (by omega)]at this ⊢
     simpa using this
   ·rw[List.getElem?_eq_none (by omega),List.getElem?_eq_none (by omega)]
theorem zbx {A:Type}{l:List A}{k:Nat}(h:k<l.length)(v d:A):(l.set k v).getD k d=v:=by
 rw[List.getD_eq_getElem?_getD,List.getElem?_set_self h];rfl
theorem zj4 {A:Type}(l:List A)(d:A)(p:A->Bool):((List.range l.length).any fun k=>p (l.getD k d))=l.any p:=by
 rw[Bool.eq_iff_iff,List.any_eq_true,List.any_eq_true]
 constructor
 · rintro⟨k,hk,h⟩
   exact⟨_,zaf (List.mem_range.1 hk) d,h⟩
 · rintro⟨x,hx,h⟩
   obtain⟨k,hk,e⟩:=List.getElem_of_mem hx
   refine⟨k,List.mem_range.2 hk,?_⟩
   rw[List.getD_eq_getElem?_getD,List.getElem?_eq_getElem hk]
   simpa[e]using h
abbrev B8:=List UInt8
abbrev Ya:=Int × Int × (List (B8 × B8 × Int × Int × Bool)) × (List (B8 × B8)) × Int × Int × Bool
abbrev Yb:=B8 × B8 × Int × Int × Bool × Int
abbrev Yc:=B8 × B8 × Int × Int × Bool
abbrev Yd:=B8 × B8
abbrev Ye:=Int × Int × Bool
abbrev Yf:=Int × Int × B8 × B8
abbrev Yg:=Int × (List Yb) × (List Ya) × (List Int) × List (Int)
abbrev Yh:=Int × Int × (List Yf) × Int
abbrev Yi:=(List Ya) × Int × (List Yb) × Int × (List Int) × Int
abbrev Yj:=Int × (List Yb) × (List Ya) × (List Int) × B8 × Int
abbrev Yk:=(List Yc) × (List Yd) × Int
abbrev Yl:=Int × Int × Int
abbrev Ym:=Int × (List Yb) × (List Ya) × (List Int) × (List Int) × Bool
abbrev Yn:=Int × (List Yb) × (List Ya) × (List Int) × (List Int) × Int
abbrev Yo:=Int × (List Yb) × (List Ya) × List (Int)
abbrev Yp:=Int × Int × (List Yf) × Int × Int × Int × B8 × B8
abbrev Yq:=(List Ya) × Int × (List Yb) × Int
abbrev Yr:=Int × Bool
abbrev Ys:=Int × Int
noncomputable def spec_l1Cur_next(a0:List (Int))(a1:Int)(a2:Int):Option Yl :=
 (if (decide (a1<a0.length)) then
 (chk (decide (0<=a1)&&decide (a1<a0.length)) <|
 some (i64 (a0.getD (Int.toNat a1) 0)):Option (Int))
 else
 (some (0:Int))).bind fun s0 =>
 if (decide ((i64 (a1+1))<=(a0.length:Int))) then
 (some (i64 (a1+1),(u64 ((u64 ((u64 (a2*(6364136223846793005:Int)))+(u64 s0)))+(1442695040888963407:Int))),s0))
 else
 some (i64 (a1+1),(u64 ((u64 ((u64 (a2*(6364136223846793005:Int)))+(u64 s0)))+(1442695040888963407:Int))),(i64 (ands .u64 (shrs .u64 (u64 ((u64 ((u64 (a2*(6364136223846793005:Int)))+(u64 s0)))+(1442695040888963407:Int))) (40:Int)) (255:Int))))
noncomputable def spec_l1Cur_pick(a0:List (Int))(a1:Int)(a2:Int)(a3:Int):Option Yl :=
 if (decide (a3<=(1:Int))) then
 (some (a1,a2,(0:Int)))
 else
 (spec_l1Cur_next a0 a1 a2).bind fun r0 =>
 (if (decide ((200:Int)<a3)) then
 ((spec_l1Cur_next a0 r0.1 r0.2.1).bind fun r1 =>
 some (r1.1,r1.2.1,(i64 ((i64 (r0.2.2*(256:Int)))+r1.2.2))):Option Yl)
 else
 (some (r0.1,r0.2.1,r0.2.2))).bind fun s2 =>
 chk (!decide (a3=(0:Int))) <|
 some (s2.1,s2.2.1,(Int.tmod s2.2.2 a3))
noncomputable def spec_l1Cur_one(a0:List (Int))(a1:Int)(a2:Int)(a3:Int):Option Ye :=
 (spec_l1Cur_pick a0 a1 a2 a3).bind fun r0 =>
 some (r0.1,r0.2.1,(decide (r0.2.2=(0:Int))))
noncomputable def spec_l1Cur_among(a0:List (Int))(a1:Int)(a2:Int)(a3:List (Int)):Option Yl :=
 (spec_l1Cur_pick a0 a1 a2 (a3.length:Int)).bind fun r0 =>
 chk (decide (0<=r0.2.2)&&decide (r0.2.2<a3.length)) <|
 some (r0.1,r0.2.1,(a3.getD (Int.toNat r0.2.2) 0))
noncomputable def impl_in(a0:Int)(a1:Int)(a2:Int):Option (Bool) :=
 let v0:Bool:=(if (decide (a1<=a0)) then (decide (a0<=a2)) else false)
 some v0
noncomputable def spec_l1In(a0:Int)(a1:Int)(a2:Int):Option (Bool) :=
 let v0:Bool:=(if (decide (a1<=a0)) then (decide (a0<=a2)) else false)
 some v0
noncomputable def laws_sameInts(a0:List (Int))(a1:List (Int)):Option (Bool) :=
 if (!decide ((a0.length:Int)=(a1.length:Int))) then
 (some false)
 else
 let j0:Unit->Option _:=fun s1 =>
 (some true)
 (loopM (σ:=Int) (X:=Unit ⊕ Bool) (fun s2 =>
 (if (decide (s2<a0.length)) then
 (let j3:Unit->Option _:=fun s4 =>
 (some (.inl (i64 (s2+1))))
 chk (decide (0<=s2)&&decide (s2<a0.length)) <|
 chk (decide (0<=s2)&&decide (s2<a1.length)) <|
 if (!decide ((a0.getD (Int.toNat s2) 0)=(a1.getD (Int.toNat s2) 0))) then
 (some (.inr (.inr false)))
 else
 j3 ())
 else
 some (.inr (.inl ())))) (0:Int)).bind fun x5 =>
 sumE x5 (fun y6 =>
 j0 ()) (fun z7 =>
 some z7)
noncomputable def laws_has(a0:List (Int))(a1:Int):Option (Bool) :=
 let j0:Unit->Option _:=fun s1 =>
 (some false)
 (loopM (σ:=Int) (X:=Unit ⊕ Bool) (fun s2 =>
 (if (decide (s2<a0.length)) then
 (let j3:Unit->Option _:=fun s4 =>
 (some (.inl (i64 (s2+1))))
 chk (decide (0<=s2)&&decide (s2<a0.length)) <|
 if (decide ((a0.getD (Int.toNat s2) 0)=a1)) then
 (some (.inr (.inr true)))
 else
 j3 ())
 else
 some (.inr (.inl ())))) (0:Int)).bind fun x5 =>
 sumE x5 (fun y6 =>
 j0 ()) (fun z7 =>
 some z7)
noncomputable def laws_eqIntS(a0:List (Int))(a1:List (Int)):Option (Bool) :=
 if (!decide ((a0.length:Int)=(a1.length:Int))) then
 (some false)
 else
 let j0:Unit->Option _:=fun s1 =>
 (some true)
 (loopM (σ:=Int) (X:=Unit ⊕ Bool) (fun s2 =>
 (if (decide (s2<a0.length)) then
 (let j3:Unit->Option _:=fun s4 =>
 (some (.inl (i64 (s2+1))))
 chk (decide (0<=s2)&&decide (s2<a0.length)) <|
 chk (decide (0<=s2)&&decide (s2<a1.length)) <|
 if (!decide ((a0.getD (Int.toNat s2) 0)=(a1.getD (Int.toNat s2) 0))) then
 (some (.inr (.inr false)))
 else
 j3 ())
 else
 some (.inr (.inl ())))) (0:Int)).bind fun x5 =>
 sumE x5 (fun y6 =>
 j0 ()) (fun z7 =>
 some z7)
theorem zfa {a b:List Int}(h:a.length<=1000000000):laws_eqIntS a b=some (decide (a=b)):=by
 unfold laws_eqIntS
 by_cases hl:a.length=b.length
 · simp (disch:=omega) only [Cc,if_true,if_false]
   refine zac (zeb (fun k:Nat=>(k:Int)) a.length (fun k=>!decide (a.getD k 0=b.getD k 0)) (.inr false) (.inl ()) ?_ ?_) ?_
   · intro k hk
     have hk1:(k:Int)<a.length:=by omega
     simp (disch:=omega) only [Cc,if_true,if_false]
     by_cases e:a.getD k 0=b.getD k 0
     ·simp only[e,decide_true,Bool.not_true,Bool.false_eq_true,if_false];rfl
     ·simp only[e,decide_false,Bool.not_false,if_true]
   ·simp
   · rw[zk5 0 hl]
     by_cases e:a=b<;>simp[e]
 · have:a≠b:=fun e=>hl (by rw[e])
   simp (disch:=omega) only [Cc,if_true,if_false]
theorem zbU {a b:List Int}(h:a.length<=1000000000):laws_sameInts a b=some (decide (a=b)):=zfa h
theorem zh1 {l:List Int}(h:l.length<=1000000000)(x:Int):laws_has l x=some (decide (x∈l)):=by
 unfold laws_has
 refine zac (zeb (fun k:Nat=>(k:Int)) l.length (fun k=>decide (l.getD k 0=x)) (.inr true) (.inl ()) ?_ ?_) ?_
 · intro k hk
   have hk1:(k:Int)<l.length:=by omega
   simp (disch:=omega) only [Cc,if_true,if_false]
   by_cases e:l.getD k 0=x
   ·simp only[e,decide_true,if_true]
   ·simp only[e,decide_false,Bool.false_eq_true,if_false];rfl
 ·simp
 · have:((List.range l.length).any fun k=>decide (l.getD k 0=x))=decide (x∈l):=by
    rw[Bool.eq_iff_iff,zcR]
    simp only[decide_eq_true_eq]
    constructor
    ·rintro⟨k,hk,rfl⟩;exact zaf hk 0
    · intro hx
      obtain⟨k,hk,e⟩:=List.getElem_of_mem hx
      exact⟨k,hk,by rw[List.getD_eq_getElem?_getD,List.getElem?_eq_getElem hk];exact e⟩
   rw[this]
   by_cases e:x∈l<;>simp[e]
theorem zaH (n a b:Int):impl_in n a b=some (decide (a<=n)&&decide (n<=b)):=by
 unfold impl_in
 simp only[zgq]
theorem za5 (n a b:Int):spec_l1In n a b=some (decide (a<=n)&&decide (n<=b)):=by
 unfold spec_l1In
 simp only[zgq]
structure LeaseS where
 skew:Int
 now:Int
 clocks:List Int
 holder:Int
 till:Int
 known:List Int
def LeaseS.cell(x:LeaseS)(k:Nat):Prop :=
 0<=x.clocks.getD k 0/\x.now-x.skew<=x.clocks.getD k 0/\x.clocks.getD k 0<=x.now+x.skew/\0<=x.known.getD k 0/\x.known.getD k 0<=x.till/\((k:Int)≠x.holder->x.known.getD k 0<=x.now)
structure LeaseS.head(x:LeaseS):Prop where
 s0:0<=x.skew
 s1:x.skew<=1000
 n0:0<=x.now
 n1:x.now<=1000000
 l0:1<=x.clocks.length
 l1:x.clocks.length<=12
 h0:-1<=x.holder
 h1:x.holder<=(x.clocks.length:Int)-1
 u0:0<=x.till
 u1:x.till<=2000000
 kl:x.known.length=x.clocks.length
structure LeaseS.good(x:LeaseS):Prop extends LeaseS.head x where
 c:∀k,k<x.clocks.length->x.cell k
def LeaseS.try(x:LeaseS)(k nd n:Int):Option LeaseS :=
 if k=3 then (if 1<=n/\n<=1000000 then some { x with now:=x.now+n } else none)
 else if 0<=nd/\nd<x.clocks.length then
  (if k=1 then (if (1<=n/\n<=1000000)/\(nd=x.holder\/x.till<=x.now) then some { x with holder:=nd,till:=if nd=x.holder then max (x.now+n) x.till else x.now+n } else none)
  else if k=2 then (if nd=x.holder then some { x with known:=x.known.set nd.toNat x.till } else none)
  else if k=4 then (if -1000<=n/\n<=1000000 then some { x with clocks:=x.clocks.set nd.toNat (x.clocks.getD nd.toNat 0+n) } else none)
  else none)
 else none
open Classical in
noncomputable def LeaseS.step(x:LeaseS)(k nd n:Int):Option LeaseS:=match x.try k nd n with
 |some y=>if y.good then some y else none
 |none=>none
abbrev Tx:=List UInt8
theorem za1:∀v:Tx,Op.bytesLess v v=false
 |[]=>rfl
 | a :: v => by
   have:¬a<a:=fun h=>by have:=UInt8.lt_iff_toNat_lt.1 h;omega
   simp[Op.bytesLess,za1 v,this]
theorem zhh (a b:UInt8)(x y:Tx):Op.bytesLess (a::x) (b::y)=true↔a.toNat<b.toNat\/(a=b/\Op.bytesLess x y=true):=by
 simp only[Op.bytesLess,Bool.or_eq_true,decide_eq_true_eq,Bool.and_eq_true,beq_iff_eq,UInt8.lt_iff_toNat_lt]
theorem zea:∀a b c:Tx,Op.bytesLess a b=true->Op.bytesLess b c=true->Op.bytesLess a c=true
 |_,[],_,h,_=>by cases ‹Tx›<;>simp[Op.bytesLess]at h
 |_,_::_,[],_,h=>by simp[Op.bytesLess]at h
 |[],_::_,_::_,_,_=>rfl
 | a :: x, b :: y, c :: z, h, k => by
   rw[zhh]at h k ⊢
   rcases h with h|⟨rfl,h⟩
   · rcases k with k|⟨rfl,k⟩
     ·left;omega
     ·left;exact h
   · rcases k with k|⟨rfl,k⟩
     ·left;exact k
     ·right;exact⟨rfl,zea x y z h k⟩
theorem zjR:∀a b:Tx,Op.bytesLess a b=false->Op.bytesLess b a=false->a=b
 |[],[],_,_=>rfl
 |[],_::_,h,_=>by simp[Op.bytesLess]at h
 |_::_,[],_,h=>by simp[Op.bytesLess]at h
 | a :: x, b :: y, h, k => by
   have h':¬Op.bytesLess (a::x) (b::y)=true:=by rw[h];simp
   have k':¬Op.bytesLess (b::y) (a::x)=true:=by rw[k];simp
   rw[zhh]at h' k'
   have e:a=b:=by
    apply UInt8.toNat_inj.1
    have h1:¬a.toNat<b.toNat:=fun q=>h' (.inl q)
    have h2:¬b.toNat<a.toNat:=fun q=>k' (.inl q)
    omega
   subst e
   have h1:Op.bytesLess x y=false:=by
    rw[Bool.eq_false_iff];exact fun q=>h' (.inr ⟨rfl,q⟩)
   have h2:Op.bytesLess y x=false:=by
    rw[Bool.eq_false_iff];exact fun q=>k' (.inr ⟨rfl,q⟩)
   rw[zjR x y h1 h2]
theorem zkh {a b:Tx}(h:Op.bytesLess a b=true):Op.bytesLess b a=false:=by
 rw[Bool.eq_false_iff]
 intro k
 have:=zea a b a h k
 rw[za1]at this;cases this
theorem zjp (a b:Tx):decide (cmp3 a b<0)=Op.bytesLess a b:=by
 unfold cmp3
 cases h:Op.bytesLess a b with
 |true=>simp
 | false =>
   by_cases e:a=b<;>simp[e]
theorem zia (a b:Tx):decide (cmp3 a b=0)=decide (a=b):=by
 unfold cmp3
 by_cases e:a=b
 ·subst e;simp[za1]
 ·cases Op.bytesLess a b<;>simp[e]
def SK {A:Type}(key:A->Tx)(l:List A):Prop:=l.Pairwise fun x y=>Op.bytesLess (key x) (key y)=true
def lbS {A:Type}(key:A->Tx)(l:List A)(x:Tx):Nat:=(l.takeWhile fun e=>Op.bytesLess (key e) x).length
theorem zdS {A:Type}{key:A->Tx}(l:List A)(x:Tx):lbS key l x<=l.length:=by
 unfold lbS
 exact (List.takeWhile_prefix _).length_le
theorem zj1 {A:Type}{key:A->Tx}{l:List A}{x:Tx}(d:A):∀{i:Nat},i<lbS key l x->Op.bytesLess (key (l.getD i d)) x=true:=by
 induction l with
 |nil=>intro i h;simp[lbS]at h
 | cons a l ih =>
   intro i h
   unfold lbS at h ih
   simp only[List.takeWhile]at h
   split at h
   · rename_i ha
     cases i with
     |zero=>simpa using ha
     |succ i=>simpa using ih (by simpa using h)
   ·simp at h
theorem zhM {A:Type}{key:A->Tx}{l:List A}{x:Tx}(d:A):lbS key l x<l.length->Op.bytesLess (key (l.getD (lbS key l x) d)) x=false:=by
 induction l with
 |nil=>intro h;simp at h
 | cons a l ih =>
   intro h
   unfold lbS at h ih ⊢
   simp only[List.takeWhile]at h ⊢
   split at h
   · rename_i ha
     simp only[ha,List.length_cons,List.getD_cons_succ]
     exact ih (by simpa using h)
   · rename_i ha
     simp only[ha,List.length_nil,List.getD_cons_zero]
theorem SK.get{A:Type}{key:A->Tx}{l:List A}(h:SK key l)(d:A){i j:Nat}(hij:i<j)(hj:j<l.length):Op.bytesLess (key (l.getD i d)) (key (l.getD j d))=true:=by
 have:=List.pairwise_iff_getElem.1 h i j (by omega) hj hij
 rw[List.getD_eq_getElem?_getD,List.getD_eq_getElem?_getD,List.getElem?_eq_getElem hj,List.getElem?_eq_getElem (show i<l.length by omega)]
 exact this
theorem zll {A:Type}{key:A->Tx}{l:List A}(h:SK key l){x:Tx}(d:A){i:Nat}(hi:lbS key l x<=i)(hl:i<l.length):Op.bytesLess (key (l.getD i d)) x=false:=by
 by_cases e:lbS key l x=i
 ·subst e;exact zhM d hl
 · have h1:=h.get d (show lbS key l x<i by omega) hl
   have h2:=zhM (key:=key) (x:=x) d (by omega:lbS key l x<l.length)
   rw[Bool.eq_false_iff]
   intro h3
   have:=zea _ _ _ h1 h3
   rw[h2]at this;cases this
theorem ze9 {A:Type}{key:A->Tx}{l:List A}(h:SK key l){x:Tx}(d:A){i:Nat}(hi:i<l.length)(hk:key (l.getD i d)=x):i=lbS key l x:=by
 rcases Nat.lt_trichotomy i (lbS key l x) with c|c|c
 · have:=zj1 (key:=key) d c
   rw[hk,za1]at this;cases this
 ·exact c
 · have h1:=h.get d c hi
   have h2:=zhM (key:=key) (x:=x) d (by omega:lbS key l x<l.length)
   rw[hk,h2]at h1;cases h1
def insG {A:Type}(key:A->Tx)(tl:A->A->Bool)(e:A):List A->List A
 |[]=>[e]
 |x::r=>if Op.bytesLess (key x) (key e) then x::insG key tl e r else if key x=key e then (if tl x e then e::r else x::r) else e::x::r
theorem zib {A:Type}{key:A->Tx}{tl:A->A->Bool}(e d:A):∀l:List A,insG key tl e l=if lbS key l (key e)<l.length/\key (l.getD (lbS key l (key e)) d)=key e then (if tl (l.getD (lbS key l (key e)) d) e then l.set (lbS key l (key e)) e else l)
 else l.take (lbS key l (key e))++e::l.drop (lbS key l (key e))
 |[]=>by simp[insG,lbS]
 | x :: r => by
   have ih:=zib (key:=key) (tl:=tl) e d r
   unfold insG
   cases hb:Op.bytesLess (key x) (key e) with
   | true =>
     have hl:lbS key (x::r) (key e)=lbS key r (key e)+1:=by simp[lbS,List.takeWhile,hb]
     rw[hl,if_pos rfl,ih]
     simp only[List.length_cons,Nat.add_lt_add_iff_right,List.getD_cons_succ,List.set_cons_succ,List.take_succ_cons,List.drop_succ_cons,List.cons_append]
     split
     ·split<;>rfl
     ·rfl
   | false =>
     have hl:lbS key (x::r) (key e)=0:=by simp[lbS,List.takeWhile,hb]
     rw[hl]
     simp only[Bool.false_eq_true,if_false,List.length_cons,Nat.zero_lt_succ,true_and,List.getD_cons_zero,List.set_cons_zero,List.take_zero,List.drop_zero,List.nil_append]
theorem zij {A:Type}{key:A->Tx}{tl:A->A->Bool}(e:A):∀l:List A,(insG key tl e l).length<=l.length+1
 |[]=>by simp[insG]
 | x :: r => by
   have:=zij (key:=key) (tl:=tl) e r
   unfold insG
   split
   ·simp;omega
   · split
     ·split<;>simp
     ·simp
theorem mem_insG{A:Type}{key:A->Tx}{tl:A->A->Bool}{e:A}{x:A}:∀{l:List A},x∈insG key tl e l->x=e\/x∈l
 |[],h=>by simp[insG]at h;exact .inl h
 | y :: r, h => by
   unfold insG at h
   split at h
   · rcases List.mem_cons.1 h with h|h
     ·exact .inr (by simp[h])
     · rcases mem_insG h with h|h
       ·exact .inl h
       ·exact .inr (List.mem_cons_of_mem _ h)
   · split at h
     · split at h
       · rcases List.mem_cons.1 h with h|h
         ·exact .inl h
         ·exact .inr (List.mem_cons_of_mem _ h)
       ·exact .inr h
     · rcases List.mem_cons.1 h with h|h
       ·exact .inl h
       ·exact .inr h
theorem zjh {A : Type} {key : A -> Tx} {tl : A -> A -> Bool} {e : A} : ∀ {l : List A}, SK key l -> SK key (insG key tl e l)
 |[],_=>by simp[insG,SK]
 | y :: r, h => by
   have h':=List.pairwise_cons.1 h
   unfold insG
   split
   · rename_i hb
     refine List.pairwise_cons.2 ⟨fun z hz=>?_,zjh h'.2⟩
     rcases mem_insG hz with rfl|hz
     ·exact hb
     ·exact h'.1 z hz
   · rename_i hb
     split
     · rename_i hk
       split
       · refine List.pairwise_cons.2 ⟨fun z hz=>?_,h'.2⟩
         rw[<- hk];exact h'.1 z hz
       ·exact h
     · rename_i hk
       have hlt:Op.bytesLess (key e) (key y)=true:=by
        rw[<- Bool.not_eq_false]
        intro hf
        exact hk (zjR _ _ (by simpa using hb) hf)
       refine List.pairwise_cons.2 ⟨fun z hz=>?_,h⟩
       rcases List.mem_cons.1 hz with rfl|hz
       ·exact hlt
       ·exact zea _ _ _ hlt (h'.1 z hz)
theorem zhW {A:Type}{key:A->Tx}{tl:A->A->Bool}{e:A}:∀{l:List A},SK key l->∃x∈insG key tl e l,key x=key e
 |[],_=>⟨e,by simp[insG],rfl⟩
 | y :: r, h => by
   have h':=List.pairwise_cons.1 h
   unfold insG
   split
   · obtain⟨x,h1,h2⟩:=zhW (e:=e) h'.2
     exact⟨x,List.mem_cons_of_mem _ h1,h2⟩
   · split
     · rename_i hk
       split
       ·exact⟨e,by simp,rfl⟩
       ·exact⟨y,by simp,hk⟩
     ·exact⟨e,by simp,rfl⟩
theorem ziw {A:Type}{key:A->Tx}{tl:A->A->Bool}{e:A}:∀{l:List A} {x:A},x∈l->key x≠key e->x∈insG key tl e l
 | y :: r, x, h, hne => by
   unfold insG
   split
   · rcases List.mem_cons.1 h with rfl|h
     ·simp
     ·exact List.mem_cons_of_mem _ (ziw h hne)
   · split
     · rename_i hk
       rcases List.mem_cons.1 h with rfl|h
       ·exact absurd hk hne
       ·split<;>exact List.mem_cons_of_mem _ h
     ·exact List.mem_cons_of_mem _ h
theorem insG_max{A:Type}{key:A->Tx}{tl:A->A->Bool}{e:A}:∀{l:List A},SK key l->∀x∈insG key tl e l,(x∈l/\(key x=key e->tl x e=false))\/(x=e/\∀y∈l,key y=key e->tl y e=true)
 |[],_,x,hx=>by simp[insG]at hx;exact .inr ⟨hx,fun y hy=>by simp at hy⟩
 | y :: r, h, x, hx => by
   have h':=List.pairwise_cons.1 h
   unfold insG at hx
   split at hx
   · rename_i hb
     have hne:key y≠key e:=fun hk=>by rw[hk,za1]at hb;cases hb
     rcases List.mem_cons.1 hx with rfl|hx
     ·exact .inl ⟨by simp,fun hk=>absurd hk hne⟩
     · rcases insG_max h'.2 x hx with⟨q1,q2⟩|⟨q1,q2⟩
       ·exact .inl ⟨List.mem_cons_of_mem _ q1,q2⟩
       · refine .inr ⟨q1,fun z hz hk=>?_⟩
         rcases List.mem_cons.1 hz with rfl|hz
         ·exact absurd hk hne
         ·exact q2 z hz hk
   · rename_i hb
     have hgt:∀z∈r,key z≠key e:=fun z hz hk=>by
      have:=h'.1 z hz
      rw[hk]at this
      exact hb this
     split at hx
     · rename_i hk
       split at hx
       · rename_i ht
         rcases List.mem_cons.1 hx with rfl|hx
         · refine .inr ⟨rfl,fun z hz hzk=>?_⟩
           rcases List.mem_cons.1 hz with rfl|hz
           ·exact ht
           ·exact absurd hzk (hgt z hz)
         ·exact .inl ⟨List.mem_cons_of_mem _ hx,fun hxk=>absurd hxk (hgt x hx)⟩
       · rename_i ht
         refine .inl ⟨hx,fun hxk=>?_⟩
         rcases List.mem_cons.1 hx with rfl|hx
         ·simpa using ht
         ·exact absurd hxk (hgt x hx)
     · rename_i hk
       rcases List.mem_cons.1 hx with rfl|hx
       · refine .inr ⟨rfl,fun z hz hzk=>?_⟩
         rcases List.mem_cons.1 hz with rfl|hz
         ·exact absurd hzk hk
         ·exact absurd hzk (hgt z hz)
       · refine .inl ⟨hx,fun hxk=>?_⟩
         rcases List.mem_cons.1 hx with rfl|hx
         ·exact absurd hxk hk
         ·exact absurd hxk (hgt x hx)
theorem zk6 {A : Type} {key : A -> Tx} : ∀ {l m : List A}, SK key l -> SK key m -> (∀ x, x ∈ l ↔ x ∈ m) -> l = m
 |[],[],_,_,_=>rfl
 |[],y::m,_,_,h=>by have:=(h y).2 (by simp);simp at this
 |x::l,[],_,_,h=>by have:=(h x).1 (by simp);simp at this
 | x :: l, y :: m, hl, hm, h => by
   have hl':=List.pairwise_cons.1 hl
   have hm':=List.pairwise_cons.1 hm
   have e : x = y := by
    rcases List.mem_cons.1 ((h x).1 (by simp)) with e|hx
    ·exact e
    · rcases List.mem_cons.1 ((h y).2 (by simp)) with e|hy
      ·exact e.symm
      · have:=zkh (hm'.1 x hx)
        rw[hl'.1 y hy]at this;cases this
   subst e
   have nl:x∉l:=fun hx=>by have:=hl'.1 x hx;rw[za1]at this;cases this
   have nm:x∉m:=fun hx=>by have:=hm'.1 x hx;rw[za1]at this;cases this
   rw[zk6 hl'.2 hm'.2 fun z=>?_]
   constructor
   · intro hz
     rcases List.mem_cons.1 ((h z).1 (List.mem_cons_of_mem _ hz)) with rfl|hz'
     ·exact absurd hz nl
     ·exact hz'
   · intro hz
     rcases List.mem_cons.1 ((h z).2 (List.mem_cons_of_mem _ hz)) with rfl|hz'
     ·exact absurd hz nm
     ·exact hz'
noncomputable def spec_l1Has(a0:List (Int))(a1:Int):Option (Bool) :=
 let j0:Unit->Option _:=fun s1 =>
 (some false)
 (loopM (σ:=Int) (X:=Unit ⊕ Bool) (fun s2 =>
 (if (decide (s2<a0.length)) then
 (let j3:Unit->Option _:=fun s4 =>
 (some (.inl (i64 (s2+1))))
 chk (decide (0<=s2)&&decide (s2<a0.length)) <|
 if (decide ((a0.getD (Int.toNat s2) 0)=a1)) then
 (some (.inr (.inr true)))
 else
 j3 ())
 else
 some (.inr (.inl ())))) (0:Int)).bind fun x5 =>
 sumE x5 (fun y6 =>
 j0 ()) (fun z7 =>
 some z7)
noncomputable def cmp_isNaN_int(a0:Int):Option (Bool) :=
 some (!decide (a0=a0))
noncomputable def spec_l1Cur_of(a0:List (Int))(a1:Int)(a2:Int)(a3:List B8):Option (Int × Int × B8) :=
 (spec_l1Cur_pick a0 a1 a2 (a3.length:Int)).bind fun r0 =>
 chk (decide (0<=r0.2.2)&&decide (r0.2.2<a3.length)) <|
 some (r0.1,r0.2.1,(a3.getD (Int.toNat r0.2.2) []))
noncomputable def spec_l1Cur_value(a0:List (Int))(a1:Int)(a2:Int):Option (Int × Int × B8) :=
 (spec_l1Cur_one a0 a1 a2 (60:Int)).bind fun r0 =>
 if r0.2.2 then
 (let v1:List B8:=(([97,59,98]:B8)::(([10]:B8)::(([49,50,51,52,53,54,55,56,57,48,49,50,51,52,53,54,55,56,57,48,49]:B8)::([]:List B8))))
 (spec_l1Cur_of a0 r0.1 r0.2.1 v1).bind fun r2 =>
 some (r2.1,r2.2.1,r2.2.2))
 else
 let v3:List B8:=(([49]:B8)::(([50]:B8)::(([]:B8)::(([118,32,119]:B8)::(([120]:B8)::([]:List B8))))))
 (spec_l1Cur_of a0 r0.1 r0.2.1 v3).bind fun r4 =>
 some (r4.1,r4.2.1,r4.2.2)
noncomputable def impl_isValue(a0:B8):Option (Bool) :=
 let j0:Unit->Option _:=fun s1 =>
 (some (decide ((a0.length:Int)<=(20:Int))))
 (loopM (σ:=Int) (X:=Unit ⊕ Bool) (fun s2 =>
 (if (decide (s2<a0.length)) then
 (let j3:Unit->Option _:=fun s4 =>
 (some (.inl (i64 (s2+1))))
 chk (decide (0<=s2)&&decide (s2<a0.length)) <|
 chk (!(!(decide ((((a0.getD (Int.toNat s2) 0).toNat:Nat):Int)<(32:Int))))||(decide (0<=s2)&&decide (s2<a0.length))) <|
 let v5:Bool:=(if (decide ((((a0.getD (Int.toNat s2) 0).toNat:Nat):Int)<(32:Int))) then true else (decide ((126:Int)<(((a0.getD (Int.toNat s2) 0).toNat:Nat):Int))))
 chk (!(!v5)||(decide (0<=s2)&&decide (s2<a0.length))) <|
 let v6:Bool:=(if v5 then true else (decide ((((a0.getD (Int.toNat s2) 0).toNat:Nat):Int)=(59:Int))))
 if v6 then
 (some (.inr (.inr false)))
 else
 j3 ())
 else
 some (.inr (.inl ())))) (0:Int)).bind fun x7 =>
 sumE x7 (fun y8 =>
 j0 ()) (fun z9 =>
 some z9)
noncomputable def spec_l1Value(a0:B8):Option (Bool) :=
 let j0:Unit->Option _:=fun s1 =>
 (some (decide ((a0.length:Int)<=(20:Int))))
 (loopM (σ:=Int) (X:=Unit ⊕ Bool) (fun s2 =>
 (if (decide (s2<a0.length)) then
 (let j3:Unit->Option _:=fun s4 =>
 (some (.inl (i64 (s2+1))))
 chk (decide (0<=s2)&&decide (s2<a0.length)) <|
 chk (!(!(decide ((((a0.getD (Int.toNat s2) 0).toNat:Nat):Int)<(32:Int))))||(decide (0<=s2)&&decide (s2<a0.length))) <|
 let v5:Bool:=(if (decide ((((a0.getD (Int.toNat s2) 0).toNat:Nat):Int)<(32:Int))) then true else (decide ((126:Int)<(((a0.getD (Int.toNat s2) 0).toNat:Nat):Int))))
 chk (!(!v5)||(decide (0<=s2)&&decide (s2<a0.length))) <|
 let v6:Bool:=(if v5 then true else (decide ((((a0.getD (Int.toNat s2) 0).toNat:Nat):Int)=(59:Int))))
 if v6 then
 (some (.inr (.inr false)))
 else
 j3 ())
 else
 some (.inr (.inl ())))) (0:Int)).bind fun x7 =>
 sumE x7 (fun y8 =>
 j0 ()) (fun z9 =>
 some z9)
noncomputable def spec_l1Num(a0:Int):Option B8 :=
 if (decide (a0<(10:Int))) then
 (let v0:List (Int):=((u8 (i64 ((48:Int)+a0)))::([]:List (Int)))
 let v1:B8:=(v0.map fun n=>UInt8.ofNat n.toNat)
 some v1)
 else
 chk false <|
 none
noncomputable def spec_l1Num'(a0:Int):Option B8 :=
 if (decide (a0<(10:Int))) then
 (let v0:List (Int):=((u8 (i64 ((48:Int)+a0)))::([]:List (Int)))
 let v1:B8:=(v0.map fun n=>UInt8.ofNat n.toNat)
 some v1)
 else
 (spec_l1Num (i64 (Int.tdiv a0 (10:Int)))).bind fun r2 =>
 let v3:List (Int):=((u8 (i64 ((48:Int)+(Int.tmod a0 (10:Int)))))::([]:List (Int)))
 let v4:B8:=(v3.map fun n=>UInt8.ofNat n.toNat)
 let v5:B8:=(r2++v4)
 chk (decide ((v5.length:Int)<=(4611686018427387904:Int))) <|
 some v5
noncomputable def spec_l1Num''(a0:Int):Option B8 :=
 if (decide (a0<(10:Int))) then
 (let v0:List (Int):=((u8 (i64 ((48:Int)+a0)))::([]:List (Int)))
 let v1:B8:=(v0.map fun n=>UInt8.ofNat n.toNat)
 some v1)
 else
 (spec_l1Num' (i64 (Int.tdiv a0 (10:Int)))).bind fun r2 =>
 let v3:List (Int):=((u8 (i64 ((48:Int)+(Int.tmod a0 (10:Int)))))::([]:List (Int)))
 let v4:B8:=(v3.map fun n=>UInt8.ofNat n.toNat)
 let v5:B8:=(r2++v4)
 chk (decide ((v5.length:Int)<=(4611686018427387904:Int))) <|
 some v5
noncomputable def spec_l1Num'''(a0:Int):Option B8 :=
 if (decide (a0<(10:Int))) then
 (let v0:List (Int):=((u8 (i64 ((48:Int)+a0)))::([]:List (Int)))
 let v1:B8:=(v0.map fun n=>UInt8.ofNat n.toNat)
 some v1)
 else
 (spec_l1Num'' (i64 (Int.tdiv a0 (10:Int)))).bind fun r2 =>
 let v3:List (Int):=((u8 (i64 ((48:Int)+(Int.tmod a0 (10:Int)))))::([]:List (Int)))
 let v4:B8:=(v3.map fun n=>UInt8.ofNat n.toNat)
 let v5:B8:=(r2++v4)
 chk (decide ((v5.length:Int)<=(4611686018427387904:Int))) <|
 some v5
noncomputable def spec_l1Key(a0:B8):Option (Bool) :=
 let j0:Unit->Option _:=fun s1 =>
 ((spec_l1In (a0.length:Int) (1:Int) (8:Int)).bind fun r2 =>
 some r2)
 (loopM (σ:=Int) (X:=Unit ⊕ Bool) (fun s3 =>
 (if (decide (s3<a0.length)) then
 (let j4:Unit->Option _:=fun s5 =>
 (some (.inl (i64 (s3+1))))
 chk (decide (0<=s3)&&decide (s3<a0.length)) <|
 let v6:Bool:=(if (decide ((97:Int)<=(((a0.getD (Int.toNat s3) 0).toNat:Nat):Int))) then (decide ((((a0.getD (Int.toNat s3) 0).toNat:Nat):Int)<=(122:Int))) else false)
 let v7:Bool:=(if (decide ((48:Int)<=(((a0.getD (Int.toNat s3) 0).toNat:Nat):Int))) then (decide ((((a0.getD (Int.toNat s3) 0).toNat:Nat):Int)<=(57:Int))) else false)
 let v8:Bool:=(if v6 then true else v7)
 if (!v8) then
 (some (.inr (.inr false)))
 else
 j4 ())
 else
 some (.inr (.inl ())))) (0:Int)).bind fun x9 =>
 sumE x9 (fun y10 =>
 j0 ()) (fun z11 =>
 some z11)
noncomputable def strings_Trim(a0:B8)(a1:B8):Option B8 :=
 chk (ascii a1) <|
 chk (decide ((a0.length:Int)<=(1000:Int))) <|
 some (trim a0 a1)
noncomputable def impl_isKey(a0:B8):Option (Bool) :=
 let v0:Bool:=(if (decide ((1:Int)<=(a0.length:Int))) then (decide ((a0.length:Int)<=(8:Int))) else false)
 (if v0 then strings_Trim a0 ([97,98,99,100,101,102,103,104,105,106,107,108,109,110,111,112,113,114,115,116,117,118,119,120,121,122,48,49,50,51,52,53,54,55,56,57]:B8) else some []).bind fun r1 =>
 let v2:Bool:=(if v0 then (decide (r1=([]:B8))) else false)
 some v2
def kc (b:UInt8):Bool:=(Nat.ble 97 b.toNat&&Nat.ble b.toNat 122)||(Nat.ble 48 b.toNat&&Nat.ble b.toNat 57)
def isKy (l:List UInt8):Bool:=decide (1<=l.length)&&decide (l.length<=8)&&l.all kc
theorem zio {A:Type}(p:A->Bool):∀l:List A,(l.dropWhile p = [])↔l.all p=true
 |[]=>by simp
 | a :: l => by
   by_cases h:p a=true
   ·simp[List.dropWhile,h,zio p l]
   ·simp[List.dropWhile,h]
theorem zjJ {A:Type}(p:A->Bool):∀l:List A,(l.dropWhile p).all p=true->l.dropWhile p = []
 |[],_=>rfl
 | a :: l, h => by
   by_cases ha:p a=true
   ·simp only[List.dropWhile,ha]at h ⊢;exact zjJ p l h
   ·simp only[List.dropWhile,ha]at h;simp[ha]at h
theorem zkn (l cs:List UInt8):(trim l cs = [])↔l.all (cs.contains ·)=true:=by
 unfold trim
 rw[zio]
 constructor
 · intro h
   rw[List.all_reverse]at h
   have:=(zio _ _).1 (zjJ _ _ h)
   rwa[List.all_reverse]at this
 · intro h
   have:l.reverse.dropWhile (cs.contains ·) = []:=(zio _ _).2 (by rw[List.all_reverse];exact h)
   rw[this];rfl
def kset:List UInt8:=[97,98,99,100,101,102,103,104,105,106,107,108,109,110,111,112,113,114,115,116,117,118,119,120,121,122,48,49,50,51,52,53,54,55,56,57]
theorem zkq:∀n,n<256->kset.contains (UInt8.ofNat n)=kc (UInt8.ofNat n):=by decide +kernel
theorem zld (b:UInt8):kset.contains b=kc b:=by
 have:=zkq b.toNat (UInt8.toNat_lt b)
 rwa[UInt8.ofNat_toNat]at this
theorem zbg (l:List UInt8):impl_isKey l=some (isKy l):=by
 unfold impl_isKey isKy
 by_cases h1:1<=l.length
 · by_cases h2:l.length<=8
   · have e1:strings_Trim l kset=some (trim l kset):=by
      unfold strings_Trim
      have:ascii kset=true:=by decide
      rw[this]
      simp (disch:=omega) only [Cc,if_true,if_false]
     have e2:decide (trim l kset = [])=l.all kc:=by
      rw[Bool.eq_iff_iff,decide_eq_true_eq,zkn]
      simp only[zld]
     unfold kset at e1 e2
     simp (disch:=omega) only [Cc,if_true,if_false,e1,e2]
   · have h2':¬(((l.length:Nat):Int)<=8):=by omega
     simp[h2,h2']
 · have h1':¬((1:Int)<=((l.length:Nat):Int)):=by omega
   have h1'':l.length=0:=by omega
   simp only[h1',decide_false,Bool.false_eq_true,if_false,bind_some,h1'']
   rfl
theorem zlm (b:UInt8):kc b=((decide ((97:Int)<=((b.toNat:Nat):Int))&&decide (((b.toNat:Nat):Int)<=122))||(decide ((48:Int)<=((b.toNat:Nat):Int))&&decide (((b.toNat:Nat):Int)<=57))):=by
 unfold kc
 have e:∀a b:Nat,Nat.ble a b=decide ((a:Int)<=(b:Int)):=fun a b=>by
  rw[Bool.eq_iff_iff,decide_eq_true_eq,Nat.ble_eq];omega
 simp only[e];rfl
theorem zbd (l:List UInt8)(h:l.length<=1000000000):spec_l1Key l=some (isKy l):=by
 unfold spec_l1Key isKy
 refine zac (zeb (fun k:Nat=>(k:Int)) l.length (fun k=>!kc (l.getD k 0)) (.inr false) (.inl ()) ?_ ?_) ?_
 · intro k hk
   have hk1:(k:Int)<l.length:=by omega
   simp (disch:=omega) only [Cc,if_true,if_false,zgq,zdB]
   rw[<- zlm]
   cases kc (l.getD k 0)<;>simp
 ·simp
 · have:((List.range l.length).any fun k=>!kc (l.getD k 0)) = !l.all kc:=by
    rw[zj4 l 0 (fun b=>!kc b)]
    rw[List.all_eq_not_any_not,Bool.not_not]
   rw[this]
   cases hk:l.all kc with
   | true =>
     simp only[Bool.not_true,Bool.false_eq_true,if_false,zaw,za5,bind_some,Bool.and_true]
     congr 2
     ·simp only[decide_eq_decide];omega
     ·simp only[decide_eq_decide];omega
   |false=>simp
noncomputable def spec_l1Cur_key(a0:List (Int))(a1:Int)(a2:Int):Option (Int × Int × B8) :=
 (spec_l1Cur_one a0 a1 a2 (60:Int)).bind fun r0 =>
 if r0.2.2 then
 (let v1:List B8:=(([]:B8)::(([65]:B8)::(([49,50,51,52,53,54,55,56,57]:B8)::([]:List B8))))
 (spec_l1Cur_of a0 r0.1 r0.2.1 v1).bind fun r2 =>
 some (r2.1,r2.2.1,r2.2.2))
 else
 let v3:List B8:=(([97]:B8)::(([98]:B8)::(([99]:B8)::(([100]:B8)::([]:List B8)))))
 (spec_l1Cur_of a0 r0.1 r0.2.1 v3).bind fun r4 =>
 some (r4.1,r4.2.1,r4.2.2)
noncomputable def impl_isTid(a0:Int)(a1:Int)(a2:Bool):Option (Bool) :=
 (impl_in a0 (0:Int) (1048575:Int)).bind fun r0 =>
 (if r0 then impl_in a1 (0:Int) (16777215:Int) else some false).bind fun r1 =>
 let v2:Bool:=(if r0 then r1 else false)
 some v2
noncomputable def strings_Compare(a0:B8)(a1:B8):Option (Int) :=
 some (cmp3 a0 a1)
noncomputable def cmp_Compare_int(a0:Int)(a1:Int):Option (Int) :=
 (cmp_isNaN_int a0).bind fun r0 =>
 (cmp_isNaN_int a1).bind fun r1 =>
 if r0 then
 (if r1 then
 (some (0:Int))
 else
 some (-1:Int))
 else
 if r1 then
 (some (1:Int))
 else
 if (decide (a0<a1)) then
 (some (-1:Int))
 else
 if (decide (a1<a0)) then
 (some (1:Int))
 else
 some (0:Int)
noncomputable def cmp_Or_int(a0:List (Int)):Option (Int) :=
 let j0:Unit->Option _:=fun s1 =>
 (some (0:Int))
 (loopM (σ:=Int) (X:=Unit ⊕ (Int)) (fun s2 =>
 (if (decide (s2<a0.length)) then
 (let j3:Unit->Option _:=fun s4 =>
 (some (.inl (i64 (s2+1))))
 chk (decide (0<=s2)&&decide (s2<a0.length)) <|
 if (!decide ((a0.getD (Int.toNat s2) 0)=(0:Int))) then
 (some (.inr (.inr (a0.getD (Int.toNat s2) 0))))
 else
 j3 ())
 else
 some (.inr (.inl ())))) (0:Int)).bind fun x5 =>
 sumE x5 (fun y6 =>
 j0 ()) (fun z7 =>
 some z7)
noncomputable def impl_compareTid(a0:Int)(a1:Int)(a2:Bool)(a3:Int)(a4:Int)(a5:Bool):Option (Int) :=
 (cmp_Compare_int a0 a3).bind fun r0 =>
 (cmp_Compare_int a1 a4).bind fun r1 =>
 let v2:List (Int):=(r0::(r1::([]:List (Int))))
 (cmp_Or_int v2).bind fun r3 =>
 some r3
noncomputable def spec_l1Tid(a0:Int)(a1:Int)(a2:Bool):Option (Bool) :=
 (spec_l1In a0 (0:Int) (1048575:Int)).bind fun r0 =>
 (if r0 then spec_l1In a1 (0:Int) (16777215:Int) else some false).bind fun r1 =>
 let v2:Bool:=(if r0 then r1 else false)
 some v2
noncomputable def spec_l1Compare(a0:Int)(a1:Int)(a2:Bool)(a3:Int)(a4:Int)(a5:Bool):Option (Int) :=
 let j0:Unit->Option _:=fun s1 =>
 (some (0:Int))
 let v2:Bool:=(if (decide (a0=a3)) then (decide (a1<a4)) else false)
 let v3:Bool:=(if (decide (a0<a3)) then true else v2)
 if v3 then
 (some (-1:Int))
 else
 let v4:Bool:=(if (decide (a3<a0)) then true else (decide (a4<a1)))
 if v4 then
 (some (1:Int))
 else
 j0 ()
abbrev Rc:=Tx × Tx × Int × Int × Bool × Int
abbrev R0:Rc:=([],([],(0,(0,(false,0)))))
def vc (b:UInt8):Bool:=!(Nat.blt b.toNat 32||(Nat.blt 126 b.toNat||Nat.beq b.toNat 59))
def isVl (l:Tx):Bool:=l.all vc&&decide (l.length<=20)
theorem zk4 (b:UInt8):vc b = !((decide (((b.toNat:Nat):Int)<32)||decide ((126:Int)<((b.toNat:Nat):Int)))||decide (((b.toNat:Nat):Int)=59)):=by
 unfold vc
 have e1:Nat.blt b.toNat 32=decide (((b.toNat:Nat):Int)<32):=by
  rw[Bool.eq_iff_iff,decide_eq_true_eq]
  exact⟨fun h=>by have:=Nat.le_of_ble_eq_true h;omega,fun h=>Nat.ble_eq_true_of_le (by omega)⟩
 have e2:Nat.blt 126 b.toNat=decide ((126:Int)<((b.toNat:Nat):Int)):=by
  rw[Bool.eq_iff_iff,decide_eq_true_eq]
  exact⟨fun h=>by have:=Nat.le_of_ble_eq_true h;omega,fun h=>Nat.ble_eq_true_of_le (by omega)⟩
 have e3:Nat.beq b.toNat 59=decide (((b.toNat:Nat):Int)=59):=by
  rw[Bool.eq_iff_iff,decide_eq_true_eq]
  exact⟨fun h=>by have:=Nat.eq_of_beq_eq_true h;omega,fun h=>by rw[show b.toNat=59 by omega];rfl⟩
 rw[e1,e2,e3,Bool.or_assoc]
theorem ziU {f:Int->Option (Int ⊕ (Unit ⊕ Bool))}{l:Tx}(h:l.length<=1000000000)(hf:∀k:Nat,k<l.length->f (k:Int)=some (if !vc (l.getD k 0) then .inr (.inr false) else .inl ((k+1:Nat):Int)))(he:f (l.length:Int)=some (.inr (.inl ()))) :
 ((loopM f 0).bind fun x=>sumE x (fun _=>some (decide (((l.length:Nat):Int)<=20))) (fun z=>some z))=some (isVl l):=by
 refine zac (zau (fun k:Nat=>(k:Int)) l.length (fun k=>!vc (l.getD k 0)) (.inr false) (.inl ()) rfl hf he) ?_
 have:((List.range l.length).any fun k=>!vc (l.getD k 0)) = !l.all vc:=by
  rw[zj4 l 0 (fun b=>!vc b),List.all_eq_not_any_not,Bool.not_not]
 rw[this]
 unfold isVl
 cases l.all vc with
 |true=>simp only[Bool.not_true,Bool.false_eq_true,if_false,zaw,Bool.true_and];congr 1;rw[decide_eq_decide];omega
 |false=>simp
theorem zaC {l:Tx}(h:l.length<=1000000000):impl_isValue l=some (isVl l):=by
 unfold impl_isValue
 refine ziU h (fun k hk=>?_) ?_
 · have hk1:(k:Int)<l.length:=by omega
   have hk0:(0:Int)<=(k:Int):=by omega
   have hi:i64 ((k:Int)+1)=((k+1:Nat):Int):=by rw[zae (by omega) (by omega)];rfl
   simp only[hk1,hk0,decide_true,if_true,Bool.and_self,Bool.or_true,zaa,Int.toNat_natCast,zdB,hi,zk4,Bool.not_not]
   split<;>rfl
 ·simp
theorem zaE {l:Tx}(h:l.length<=1000000000):spec_l1Value l=some (isVl l):=by
 unfold spec_l1Value
 refine ziU h (fun k hk=>?_) ?_
 · have hk1:(k:Int)<l.length:=by omega
   have hk0:(0:Int)<=(k:Int):=by omega
   have hi:i64 ((k:Int)+1)=((k+1:Nat):Int):=by rw[zae (by omega) (by omega)];rfl
   simp only[hk1,hk0,decide_true,if_true,Bool.and_self,Bool.or_true,zaa,Int.toNat_natCast,zdB,hi,zk4,Bool.not_not]
   split<;>rfl
 ·simp
def isTd (a b:Int):Bool:=(decide (0<=a)&&decide (a<=1048575))&&(decide (0<=b)&&decide (b<=16777215))
theorem zbi (a b:Int)(c:Bool):impl_isTid a b c=some (isTd a b):=by
 unfold impl_isTid isTd
 simp only[zaH,bind_some]
 cases (decide (0<=a)&&decide (a<=1048575))<;>simp
theorem zbM (a b:Int)(c:Bool):spec_l1Tid a b c=some (isTd a b):=by
 unfold spec_l1Tid isTd
 simp only[za5,bind_some]
 cases (decide (0<=a)&&decide (a<=1048575))<;>simp
theorem zl0 {z:Int}(h0:0<=z)(h1:z<=2000000000):i64 (shrs .u64 (u64 (i64 z)) 1)=z / 2:=by
 rw[zae (x:=z) (by omega) (by omega),zk2 (by omega) (by omega)]
 have:shrs .u64 z 1=z / 2:=by
  show Int.fdiv z (2^(min (Int.toNat 1) 64))=z / 2
  have:(2:Int)^(min (Int.toNat 1) 64)=2:=by decide
  rw[this,Int.fdiv_eq_ediv_of_nonneg _ (by omega)]
 rw[this]
 exact zae (by omega) (by omega)
theorem zdR {A:Type}{key:A->Tx}{l:List A}(h:SK key l)(d:A)(hl:l.length<=1000000000)(x:Tx){f:Int × Int->Option ((Int × Int) ⊕ Int)}
 (hs:∀(i j k:Nat),i<j->j<=l.length->(k:Int)=((i:Int)+j) / 2->f ((i:Int),(j:Int))=some (.inl (if Op.bytesLess (key (l.getD k d)) x=true then ((k:Int)+1,(j:Int)) else ((i:Int),(k:Int)))))
 (he:∀(i:Nat),f ((i:Int),(i:Int))=some (.inr (i:Int))):loopM f (0,(l.length:Int))=some (lbS key l x:Int):=by
 refine Ok.of_eq ?_
 have hle:=zdS (key:=key) l x
 refine ziR (fun s=>∃i j:Nat,s=((i:Int),(j:Int))/\i<=lbS key l x/\lbS key l x<=j/\j<=l.length) (fun s=>(s.2-s.1).toNat) ?_ ⟨0,l.length,rfl,by omega,hle,Nat.le_refl _⟩
 rintro s ⟨i,j,rfl,h1,h2,h3⟩
 by_cases e:i=j
 · subst e
   rw[he i]
   exact Ok.ret (by omega)
 · obtain⟨k,hk⟩:∃k:Nat,(k:Int)=((i:Int)+j) / 2:=⟨((i:Int)+j).toNat / 2,by omega⟩
   rw[hs i j k (by omega) h3 hk]
   have hkl:k<l.length:=by omega
   by_cases c:Op.bytesLess (key (l.getD k d)) x=true
   · rw[if_pos c]
     have:k<lbS key l x:=by
      refine Classical.byContradiction fun hn=>?_
      have:=zll h (x:=x) d (by omega:lbS key l x<=k) hkl
      rw[c]at this;cases this
     refine Ok.ret ⟨⟨k+1,j,rfl,by omega,h2,h3⟩,by dsimp only;omega⟩
   · rw[if_neg c]
     have:¬k<lbS key l x:=fun hc=>c (zj1 (key:=key) d hc)
     refine Ok.ret ⟨⟨i,k,rfl,h1,by omega,by omega⟩,by dsimp only;omega⟩
def tlt (a b c d:Int):Bool:=decide (a<c)||(decide (a=c)&&decide (b<d))
def kR (e:Rc):Tx:=e.1
theorem zlb (x y:Int):cmp_Or_int (x::y :: [])=some (if x=0 then y else x):=by
 unfold cmp_Or_int
 have hl:(((x::y :: []:List Int).length:Nat):Int)=2:=rfl
 simp only[hl]
 by_cases hx:x=0
 · by_cases hy:y=0
   · refine zac (a:=.inl ()) ?_ ?_
     · rw[zaK]
       simp only[hx,hy]
       simp (config:={ decide:=true }) only [if_true,zaa,Int.toNat_zero,List.getD_cons_zero,Bool.and_self,decide_true,Bool.not_true,Bool.false_eq_true,if_false]
       rw[zaK]
       simp (config:={ decide:=true })
       rw[zaK]
       simp (config:={ decide:=true })
     ·simp[hx,hy]
   · refine zac (a:=.inr y) ?_ ?_
     · rw[zaK]
       simp only[hx]
       simp (config:={ decide:=true }) only [if_true,zaa,Int.toNat_zero,List.getD_cons_zero,Bool.and_self,decide_true,Bool.not_true,Bool.false_eq_true,if_false]
       rw[zaK]
       have e:i64 (0+1)=1:=by decide
       have e1:i64 1=1:=by decide
       simp[e,e1,hy]
     ·simp[hx]
 · refine zac (a:=.inr x) ?_ ?_
   · rw[zaK]
     simp[hx]
   ·simp[hx]
theorem zfm (a b:Int):cmp_Compare_int a b=some (if a<b then -1 else if b<a then 1 else 0):=by
 unfold cmp_Compare_int
 have e:∀x:Int,cmp_isNaN_int x=some false:=fun x=>by simp[cmp_isNaN_int]
 simp only[e,bind_some,Bool.false_eq_true,if_false]
 by_cases h1:a<b
 ·simp[h1]
 ·by_cases h2:b<a<;>simp[h1,h2]
theorem zdo (a b:Int)(u:Bool)(c d:Int)(v:Bool):∃r,spec_l1Compare a b u c d v=some r/\decide (r<0)=tlt a b c d:=by
 unfold spec_l1Compare tlt
 simp only[zdB,zgq]
 cases hh:(decide (a<c)||decide (a=c)&&decide (b<d)) with
 |true=>exact⟨-1,by simp,by decide⟩
 | false =>
   simp only[Bool.false_eq_true,if_false]
   cases (decide (c<a)||decide (d<b)) with
   |true=>exact⟨1,by simp,by decide⟩
   |false=>exact⟨0,by simp,by decide⟩
def Byt (a:List Int):Prop:=∀b∈a,0<=b/\b<=255
theorem Byt.get{a:List Int}(h:Byt a)(k:Nat):0<=a.getD k 0/\a.getD k 0<=255:=by
 by_cases hk:k<a.length
 ·exact h _ (zaf hk 0)
 ·rw[List.getD_eq_getElem?_getD,List.getElem?_eq_none (by omega)];simp
theorem zhO (x:Int):0<=ands .u64 x 255/\ands .u64 x 255<=255:=by
 unfold ands
 have h:(BitVec.ofInt IntKind.u64.bits x &&& BitVec.ofInt IntKind.u64.bits 255).toNat<=255:=by
  rw[BitVec.toNat_and]
  exact Nat.le_trans Nat.and_le_right (by decide)
 have:=zk2 (x:=((BitVec.ofInt IntKind.u64.bits x &&& BitVec.ofInt IntKind.u64.bits 255).toNat:Int)) (by omega) (by omega)
 unfold u64 at this
 rw[this];omega
theorem zjb {a:List Int}{p h:Int}(hb:Byt a)(h0:0<=p)(h1:p<=1000000000000000000):Ok (spec_l1Cur_next a p h) (fun r=>r.1=p+1/\0<=r.2.2/\r.2.2<=255):=by
 unfold spec_l1Cur_next
 refine Ok.bind (P:=fun b=>0<=b/\b<=255) ?_ ?_
 · refine Ok.ite (fun hc=>?_) fun hc=>Ok.ret (by omega)
   have hc':p<a.length:=of_decide_eq_true hc
   have:=hb.get p.toNat
   simp (disch:=omega) only [Cc,if_true,if_false]
   exact Ok.ret (by omega)
 · intro b hb
   have:=fun x=>zhO x
   rw[zae (x:=p+1) (by omega) (by omega)]
   refine Ok.ite (fun hc=>Ok.ret ⟨rfl,hb⟩) fun hc=>Ok.ret ⟨rfl,?_⟩
   generalize hq:ands .u64 _ 255=q
   have:=zhO (shrs .u64 (u64 ((u64 ((u64 (h*(6364136223846793005:Int)))+(u64 b)))+(1442695040888963407:Int))) (40:Int))
   rw[hq]at this
   rw[zae (by omega) (by omega)];exact this
theorem zbL {a:List Int}{p h:Int}(hb:Byt a)(h0:0<=p)(h1:p<=100000000000000000)(n:Int):Ok (spec_l1Cur_pick a p h n) (fun r=>p<=r.1/\r.1<=p+2/\0<=r.2.2/\r.2.2<=max 0 (n-1)):=by
 unfold spec_l1Cur_pick
 refine Ok.ite (fun hc=>Ok.ret (by dsimp only;omega)) fun hc=>?_
 have hn:¬n<=1:=by simpa using hc
 refine Ok.bind (zjb hb h0 (by omega)) fun r hr=>?_
 refine Ok.bind (P:=fun s=>p<=s.1/\s.1<=p+2/\0<=s.2.2) ?_ ?_
 · refine Ok.ite (fun hc=>?_) fun hc=>Ok.ret (by dsimp only;omega)
   refine Ok.bind (zjb hb (by omega) (by omega)) fun q hq=>?_
   simp (disch:=omega) only [Cc,if_true,if_false]
   exact Ok.ret (by dsimp only;omega)
 · intro s hs
   simp (disch:=omega) only [Cc,if_true,if_false]
   refine Ok.ret ⟨hs.1,hs.2.1,?_,?_⟩
   ·exact Int.tmod_nonneg _ hs.2.2
   · have:=Int.tmod_lt_of_pos s.2.2 (show 0<n by omega)
     dsimp only;omega
theorem zfB {a:List Int}{p h:Int}(hb:Byt a)(h0:0<=p)(h1:p<=100000000000000000)(n:Int):Ok (spec_l1Cur_one a p h n) (fun r=>p<=r.1/\r.1<=p+2):=by
 unfold spec_l1Cur_one
 exact Ok.bind (zbL hb h0 h1 n) fun r hr=>Ok.ret ⟨hr.1,hr.2.1⟩
theorem zks {a:List Int}{p h:Int}(hb:Byt a)(h0:0<=p)(h1:p<=100000000000000000){l:List Int}(hl:l ≠ [])(P:Int->Prop)(hP:∀x∈l,P x):Ok (spec_l1Cur_among a p h l) (fun r=>p<=r.1/\r.1<=p+2/\P r.2.2):=by
 unfold spec_l1Cur_among
 refine Ok.bind (zbL hb h0 h1 _) fun r hr=>?_
 have hlen:0<l.length:=List.length_pos_iff.2 hl
 simp (disch:=omega) only [Cc,if_true,if_false]
 exact Ok.ret ⟨hr.1,hr.2.1,hP _ (zaf (by omega) _)⟩
theorem Ok.ited{A:Type}{c:Prop}[Decidable c]{a b:Option A}{Q:A->Prop}(h:c->Ok a Q)(k:¬c->Ok b Q):Ok (if decide c=true then a else b) Q :=
 Ok.ite (fun hc=>h (of_decide_eq_true hc)) fun hc=>k (of_decide_eq_false (by simpa using hc))
theorem Ok.and{A:Type}{m:Option A}{P Q:A->Prop}(h:Ok m P)(k:Ok m Q):Ok m (fun a=>P a/\Q a):=by
 obtain⟨a,h1,h2⟩:=h
 obtain⟨b,h3,h4⟩:=k
 rw[h1]at h3;cases h3
 exact⟨a,h1,h2,h4⟩
theorem Ok.any{A:Type}{m:Option A}{Q:A->Prop}(h:Ok m Q):Ok m fun _=>True:=h.mono fun _ _=>trivial
theorem zhd {a:List Int}{p h:Int}(hb:Byt a)(h0:0<=p)(h1:p<=100000000000000000){l:List Int}(hl:l ≠ []):Ok (spec_l1Cur_among a p h l) (fun r=>p<=r.1/\r.1<=p+2/\r.2.2∈l) :=
 zks hb h0 h1 hl (· ∈ l) fun _ hx=>hx
theorem zhY {a:List Int}{p h:Int}(hb:Byt a)(h0:0<=p)(h1:p<=100000000000000000){l:List (List UInt8)}(hl:l ≠ []):Ok (spec_l1Cur_of a p h l) (fun r=>p<=r.1/\r.1<=p+2/\r.2.2∈l):=by
 unfold spec_l1Cur_of
 refine Ok.bind (zbL hb h0 h1 _) fun r hr=>?_
 have hlen:0<l.length:=List.length_pos_iff.2 hl
 simp (disch:=omega) only [Cc,if_true,if_false]
 exact Ok.ret ⟨hr.1,hr.2.1,zaf (by omega) _⟩
theorem zj0 {a:List Int}{p h:Int}(hb:Byt a)(h0:0<=p)(h1:p<=10000000000000000):Ok (spec_l1Cur_value a p h) (fun r=>p<=r.1/\r.1<=p+10/\r.2.2.length<=30):=by
 unfold spec_l1Cur_value
 refine Ok.bind (zfB hb h0 (by omega) _) fun r hr=>?_
 refine Ok.ite (fun _=>?_) fun _=>?_
 · refine Ok.bind (zhY hb (by omega) (by omega) (by simp)) fun q hq=>Ok.ret ⟨by dsimp only;omega,by dsimp only;omega,?_⟩
   have:=hq.2.2
   simp only[List.mem_cons,List.not_mem_nil,or_false]at this
   rcases this with h|h|h<;>rw[h]<;>decide
 · refine Ok.bind (zhY hb (by omega) (by omega) (by simp)) fun q hq=>Ok.ret ⟨by dsimp only;omega,by dsimp only;omega,?_⟩
   have:=hq.2.2
   simp only[List.mem_cons,List.not_mem_nil,or_false]at this
   rcases this with h|h|h|h|h<;>rw[h]<;>decide
noncomputable def spec_l1Cur_steps(a0:List (Int))(a1:Int)(a2:Int):Option (Int × Int × List Yf) :=
 (spec_l1Cur_pick a0 a1 a2 (30:Int)).bind fun r0 =>
 (spec_l1Cur_one a0 r0.1 r0.2.1 (8:Int)).bind fun r1 =>
 (if r1.2.2 then
 ((spec_l1Cur_pick a0 r1.1 r1.2.1 (32:Int)).bind fun r2 =>
 some (r2.1,r2.2.1,(i64 ((90:Int)+r2.2.2))):Option Yl)
 else
 (some (r1.1,r1.2.1,r0.2.2))).bind fun s3 =>
 ((loopM (σ:=Int × Int × (List Yf) × Int × Int) (X:=Int × Int × List Yf) (fun s4 =>
 (if (decide ((0:Int)<s4.2.2.2.2)) then
 (((spec_l1Cur_pick a0 s4.1 s4.2.1 (i64 (s4.2.2.2.1+1))).bind fun r5 =>
 (spec_l1Cur_key a0 r5.1 r5.2.1).bind fun r6 =>
 (spec_l1Cur_value a0 r6.1 r6.2.1).bind fun r7 =>
 (if (decide ((4:Int)<s4.2.2.2.1)) then
 ((spec_l1Cur_pick a0 r7.1 r7.2.1 (4:Int)).bind fun r8 =>
 some (r8.1,r8.2.1,(i64 (s4.2.2.2.1-r8.2.2))):Option Yl)
 else
 (some (r7.1,r7.2.1,(i64 ((1:Int)+r5.2.2))))).bind fun s9 =>
 (spec_l1Cur_pick a0 s9.1 s9.2.1 (12:Int)).bind fun r10 =>
 ((if (decide (r10.2.2=(0:Int))) then
 (some (decide (r10.2.2=(0:Int))):Option (Bool))
 else
 (some (decide (r10.2.2=(1:Int))))).bind fun s11 =>
 (if s11 then
 (some (r10.1,r10.2.1,s4.2.2.1,i64 (s4.2.2.2.1+1),(1:Int),(0:Int),([]:B8),([]:B8)):Option Yp)
 else
 ((if (decide (r10.2.2=(2:Int))) then
 (some (decide (r10.2.2=(2:Int))):Option (Bool))
 else
 ((if (decide (r10.2.2=(3:Int))) then
 (some (decide (r10.2.2=(3:Int))):Option (Bool))
 else
 (some (decide (r10.2.2=(4:Int))))).bind fun s12 =>
 some s12)).bind fun s13 =>
 (if s13 then
 (some (r10.1,r10.2.1,s4.2.2.1,(2:Int)):Option Yh)
 else
 ((if (decide (r10.2.2=(5:Int))) then
 (some (decide (r10.2.2=(5:Int))):Option (Bool))
 else
 (some (decide (r10.2.2=(6:Int))))).bind fun s14 =>
 (if s14 then
 (some (r10.1,r10.2.1,s4.2.2.1,(3:Int)):Option Yh)
 else
 ((if (decide (r10.2.2=(7:Int))) then
 (some (r10.1,r10.2.1,s4.2.2.1,(4:Int)):Option Yh)
 else
 ((if (decide (r10.2.2=(8:Int))) then
 (some (r10.1,r10.2.1,s4.2.2.1,(5:Int)):Option Yh)
 else
 ((if (decide (r10.2.2=(9:Int))) then
 (some (r10.1,r10.2.1,s4.2.2.1,(6:Int)):Option Yh)
 else
 ((if (decide (r10.2.2=(10:Int))) then
 (let v15:List Yf:=(((4:Int),(s9.2.2,(([]:B8),([]:B8))))::(((5:Int),(s9.2.2,(([]:B8),([]:B8))))::([]:List Yf)))
 let v16:List Yf:=(s4.2.2.1++v15)
 chk (decide ((v16.length:Int)<=(2932031007402:Int))) <|
 some (r10.1,r10.2.1,v16,(6:Int)):Option Yh)
 else
 ((spec_l1Cur_one a0 r10.1 r10.2.1 (4:Int)).bind fun r17 =>
 (if (!r17.2.2) then
 (some (2:Int):Option (Int))
 else
 (some (7:Int))).bind fun s18 =>
 some (r17.1,r17.2.1,s4.2.2.1,s18))).bind fun s19 =>
 some (s19.1,s19.2.1,s19.2.2.1,s19.2.2.2))).bind fun s20 =>
 some (s20.1,s20.2.1,s20.2.2.1,s20.2.2.2))).bind fun s21 =>
 some (s21.1,s21.2.1,s21.2.2.1,s21.2.2.2))).bind fun s22 =>
 some (s22.1,s22.2.1,s22.2.2.1,s22.2.2.2))).bind fun s23 =>
 some (s23.1,s23.2.1,s23.2.2.1,s23.2.2.2))).bind fun s24 =>
 some (s24.1,s24.2.1,s24.2.2.1,s4.2.2.2.1,s24.2.2.2,s9.2.2,r6.2.2,r7.2.2))).bind fun s25 =>
 some (s25.1,s25.2.1,s25.2.2.1,s25.2.2.2.1,s25.2.2.2.2.1,s25.2.2.2.2.2.1,s25.2.2.2.2.2.2.1,s25.2.2.2.2.2.2.2):Option Yp).bind fun s26 =>
 (spec_l1Cur_one a0 s26.1 s26.2.1 (60:Int)).bind fun r27 =>
 (if r27.2.2 then
 (let v28:List (Int):=((0:Int)::((8:Int)::([]:List (Int))))
 (spec_l1Cur_among a0 r27.1 r27.2.1 v28).bind fun r29 =>
 some (r29.1,r29.2.1,r29.2.2):Option Yl)
 else
 (some (r27.1,r27.2.1,s26.2.2.2.2.1))).bind fun s30 =>
 let v31:List Yf:=((s30.2.2,(s26.2.2.2.2.2.1,(s26.2.2.2.2.2.2.1,s26.2.2.2.2.2.2.2)))::([]:List Yf))
 let v32:List Yf:=(s26.2.2.1++v31)
 chk (decide ((v32.length:Int)<=(2932031007402:Int))) <|
 some (s30.1,s30.2.1,v32,s26.2.2.2.1):Option Yh).bind fun s33 =>
 some (.inl (s33.1,s33.2.1,s33.2.2.1,s33.2.2.2,i64 (s4.2.2.2.2-1))))
 else
 some (.inr (s4.1,s4.2.1,s4.2.2.1)))) (s3.1,s3.2.1,([]:List Yf),(0:Int),s3.2.2)).bind fun x34 =>
 some (x34.1,x34.2.1,x34.2.2):Option (Int × Int × List Yf)).bind fun s35 =>
 some (s35.1,s35.2.1,s35.2.2)
noncomputable def spec_DrawPlayStore(a0:List (Int)):Option (Int × List Yf) :=
 (spec_l1Cur_pick a0 (0:Int) (0:Int) (5:Int)).bind fun r0 =>
 (spec_l1Cur_one a0 r0.1 r0.2.1 (30:Int)).bind fun r1 =>
 (if r1.2.2 then
 (let v2:List (Int):=((0:Int)::((1000:Int)::((1001:Int)::([]:List (Int)))))
 (spec_l1Cur_among a0 r1.1 r1.2.1 v2).bind fun r3 =>
 some (r3.1,r3.2.1,r3.2.2):Option Yl)
 else
 (some (r1.1,r1.2.1,(i64 ((1:Int)+r0.2.2))))).bind fun s4 =>
 (spec_l1Cur_steps a0 s4.1 s4.2.1).bind fun r5 =>
 some (s4.2.2,r5.2.2)
noncomputable def impl_copyStore(a0:Int)(a1:List Yb)(a2:List Ya)(a3:List (Int)):Option Yo :=
 let v0:List Yb:=(([]:List Yb)++a1)
 chk (decide ((v0.length:Int)<=(2199023255552:Int))) <|
 let v1:List (Int):=(([]:List (Int))++a3)
 chk (decide ((v1.length:Int)<=(17592186044416:Int))) <|
 ((loopM (σ:=(List Ya) × Int) (X:=List Ya) (fun s2 =>
 (if (decide (s2.2<a2.length)) then
 ((chk (decide (0<=s2.2)&&decide (s2.2<a2.length)) <|
 let v3:Int × Int × (List Yc) × (List Yd) × Int × Int × Bool:=(a2.getD (Int.toNat s2.2) (0,(0,([],([],(0,(0,false)))))))
 chk true <|
 chk true <|
 let v4:List Yc:=(([]:List Yc)++v3.2.2.1)
 chk (decide ((v4.length:Int)<=(2513169434916:Int))) <|
 let v5:List Yd:=(([]:List Yd)++v3.2.2.2.1)
 chk (decide ((v5.length:Int)<=(4398046511104:Int))) <|
 let v6:List Ya:=((v3.1,(v3.2.1,(v4,(v5,(v3.2.2.2.2.1,(v3.2.2.2.2.2.1,v3.2.2.2.2.2.2))))))::([]:List Ya))
 let v7:List Ya:=(s2.1++v6)
 chk (decide ((v7.length:Int)<=(1599289640401:Int))) <|
 some v7:Option (List Ya)).bind fun s8 =>
 some (.inl (s8,i64 (s2.2+1))))
 else
 some (.inr s2.1))) (([]:List Ya),(0:Int))).bind fun x9 =>
 some x9:Option (List Ya)).bind fun s10 =>
 some (a0,v0,s10,v1)
noncomputable def internal_strconv_small(a0:Int):Option B8 :=
 if (decide (a0<(10:Int))) then
 (chk (decide (0<=a0)&&((decide (a0<=(i64 (a0+1))))&&(decide ((i64 (a0+1))<=((([48,49,50,51,52,53,54,55,56,57,97,98,99,100,101,102,103,104,105,106,107,108,109,110,111,112,113,114,115,116,117,118,119,120,121,122]:B8).length:Nat):Int))))) <|
 some ((([48,49,50,51,52,53,54,55,56,57,97,98,99,100,101,102,103,104,105,106,107,108,109,110,111,112,113,114,115,116,117,118,119,120,121,122]:B8).take (Int.toNat (i64 (a0+1)))).drop (Int.toNat a0)))
 else
 chk ((decide (0<=(i64 (a0*(2:Int)))))&&((decide ((i64 (a0*(2:Int)))<=(i64 ((i64 (a0*(2:Int)))+(2:Int)))))&&(decide ((i64 ((i64 (a0*(2:Int)))+(2:Int)))<=((([48,48,48,49,48,50,48,51,48,52,48,53,48,54,48,55,48,56,48,57,49,48,49,49,49,50,49,51,49,52,49,53,49,54,49,55,49,56,49,57,50,48,50,49,50,50,50,51,50,52,50,53,50,54,50,55,50,56,50,57,51,48,51,49,51,50,51,51,51,52,51,53,51,54,51,55,51,56,51,57,52,48,52,49,52,50,52,51,52,52,52,53,52,54,52,55,52,56,52,57,53,48,53,49,53,50,53,51,53,52,53,53,53,54,53,55,53,56,53,57,54,48,54,49,54,50,54,51,54,52,54,53,54,54,54,55,54,56,54,57,55,48,55,49,55,50,55,51,55,52,55,53,55,54,55,55,55,56,55,57,56,48,56,49,56,50,56,51,56,52,56,53,56,54,56,55,56,56,56,57,57,48,57,49,57,50,57,51,57,52,57,53,57,54,57,55,57,56,57,57]:B8).length:Nat):Int))))) <|
 some ((([48,48,48,49,48,50,48,51,48,52,48,53,48,54,48,55,48,56,48,57,49,48,49,49,49,50,49,51,49,52,49,53,49,54,49,55,49,56,49,57,50,48,50,49,50,50,50,51,50,52,50,53,50,54,50,55,50,56,50,57,51,48,51,49,51,50,51,51,51,52,51,53,51,54,51,55,51,56,51,57,52,48,52,49,52,50,52,51,52,52,52,53,52,54,52,55,52,56,52,57,53,48,53,49,53,50,53,51,53,52,53,53,53,54,53,55,53,56,53,57,54,48,54,49,54,50,54,51,54,52,54,53,54,54,54,55,54,56,54,57,55,48,55,49,55,50,55,51,55,52,55,53,55,54,55,55,55,56,55,57,56,48,56,49,56,50,56,51,56,52,56,53,56,54,56,55,56,56,56,57,57,48,57,49,57,50,57,51,57,52,57,53,57,54,57,55,57,56,57,57]:B8).take (Int.toNat (i64 ((i64 (a0*(2:Int)))+(2:Int))))).drop (Int.toNat (i64 (a0*(2:Int)))))
noncomputable def internal_strconv_FormatInt(a0:Int)(a1:Int):Option B8 :=
 if (decide (a1=(10:Int))) then
 (let v0:Bool:=(if (decide (0<=a0)) then (decide (a0<(100:Int))) else false)
 if v0 then
 ((internal_strconv_small a0).bind fun r1 =>
 some r1)
 else
 (if (decide (a0<(0:Int))) then
 (some (u64 (0-(u64 a0))):Option (Int))
 else
 (some (u64 a0))).bind fun s2 =>
 chk false <|
 none)
 else
 chk false <|
 none
noncomputable def internal_strconv_Itoa(a0:Int):Option B8 :=
 (internal_strconv_FormatInt a0 (10:Int)).bind fun r0 =>
 some r0
noncomputable def strconv_Itoa(a0:Int):Option B8 :=
 (internal_strconv_Itoa a0).bind fun r0 =>
 some r0
noncomputable def impl_Running_writeAt_1(a0:B8)(a1:B8)(a2:B8):Option (Int) :=
 (strings_Compare a0 a2).bind fun r0 =>
 some r0
noncomputable def slices_BinarySearchFunc__impl_Cell_impl_Cell_string(a0:List Yd)(a1:B8):Option Yr :=
 ((loopM (σ:=Ys) (X:=Int) (fun s0 =>
 (if (decide (s0.1<s0.2)) then
 ((chk ((decide (0<=(i64 (shrs .u64 (u64 (i64 (s0.1+s0.2))) (1:Int)))))&&(decide ((i64 (shrs .u64 (u64 (i64 (s0.1+s0.2))) (1:Int)))<a0.length))) <|
 let v1:B8 × B8:=(a0.getD (Int.toNat (i64 (shrs .u64 (u64 (i64 (s0.1+s0.2))) (1:Int)))) ([],[]))
 (impl_Running_writeAt_1 v1.1 v1.2 a1).bind fun r2 =>
 (if (decide (r2<(0:Int))) then
 (some ((i64 ((i64 (shrs .u64 (u64 (i64 (s0.1+s0.2))) (1:Int)))+(1:Int))),s0.2):Option Ys)
 else
 (some (s0.1,(i64 (shrs .u64 (u64 (i64 (s0.1+s0.2))) (1:Int)))))).bind fun s3 =>
 some (s3.1,s3.2):Option Ys).bind fun s4 =>
 some (.inl (s4.1,s4.2)))
 else
 some (.inr s0.1))) ((0:Int),(a0.length:Int))).bind fun x5 =>
 some x5:Option (Int)).bind fun s6 =>
 chk (!(decide (s6<a0.length))||(decide (0<=s6)&&decide (s6<a0.length))) <|
 let v7:B8 × B8:=(a0.getD (Int.toNat s6) ([],[]))
 (if (decide (s6<a0.length)) then impl_Running_writeAt_1 v7.1 v7.2 a1 else some 0).bind fun r8 =>
 let v9:Bool:=(if (decide (s6<a0.length)) then (decide (r8=(0:Int))) else false)
 some (s6,v9)
noncomputable def impl_Running_writeAt(a0:List Ya)(a1:Int)(a2:B8):Option Yr :=
 chk (decide (0<=a1)&&decide (a1<a0.length)) <|
 chk true <|
 chk (decide (0<=a1)&&decide (a1<a0.length)) <|
 (slices_BinarySearchFunc__impl_Cell_impl_Cell_string (a0.getD (Int.toNat a1) (0,(0,([],([],(0,(0,false))))))).2.2.2.1 a2).bind fun r0 =>
 some (r0.1,r0.2)
noncomputable def impl_Store_at_1(a0:B8)(a1:B8)(a2:Int)(a3:Int)(a4:Bool)(a5:Int)(a6:B8):Option (Int) :=
 (strings_Compare a0 a6).bind fun r0 =>
 some r0
noncomputable def slices_BinarySearchFunc__impl_Record_impl_Record_string(a0:List Yb)(a1:B8):Option Yr :=
 ((loopM (σ:=Ys) (X:=Int) (fun s0 =>
 (if (decide (s0.1<s0.2)) then
 ((chk ((decide (0<=(i64 (shrs .u64 (u64 (i64 (s0.1+s0.2))) (1:Int)))))&&(decide ((i64 (shrs .u64 (u64 (i64 (s0.1+s0.2))) (1:Int)))<a0.length))) <|
 let v1:B8 × B8 × Int × Int × Bool × Int:=(a0.getD (Int.toNat (i64 (shrs .u64 (u64 (i64 (s0.1+s0.2))) (1:Int)))) ([],([],(0,(0,(false,0))))))
 (impl_Store_at_1 v1.1 v1.2.1 v1.2.2.1 v1.2.2.2.1 v1.2.2.2.2.1 v1.2.2.2.2.2 a1).bind fun r2 =>
 (if (decide (r2<(0:Int))) then
 (some ((i64 ((i64 (shrs .u64 (u64 (i64 (s0.1+s0.2))) (1:Int)))+(1:Int))),s0.2):Option Ys)
 else
 (some (s0.1,(i64 (shrs .u64 (u64 (i64 (s0.1+s0.2))) (1:Int)))))).bind fun s3 =>
 some (s3.1,s3.2):Option Ys).bind fun s4 =>
 some (.inl (s4.1,s4.2)))
 else
 some (.inr s0.1))) ((0:Int),(a0.length:Int))).bind fun x5 =>
 some x5:Option (Int)).bind fun s6 =>
 chk (!(decide (s6<a0.length))||(decide (0<=s6)&&decide (s6<a0.length))) <|
 let v7:B8 × B8 × Int × Int × Bool × Int:=(a0.getD (Int.toNat s6) ([],([],(0,(0,(false,0))))))
 (if (decide (s6<a0.length)) then impl_Store_at_1 v7.1 v7.2.1 v7.2.2.1 v7.2.2.2.1 v7.2.2.2.2.1 v7.2.2.2.2.2 a1 else some 0).bind fun r8 =>
 let v9:Bool:=(if (decide (s6<a0.length)) then (decide (r8=(0:Int))) else false)
 some (s6,v9)
noncomputable def impl_Store_at(a0:Int)(a1:List Yb)(a2:List Ya)(a3:List (Int))(a4:B8):Option Yr :=
 (slices_BinarySearchFunc__impl_Record_impl_Record_string a1 a4).bind fun r0 =>
 some (r0.1,r0.2)
noncomputable def impl_Store_read(a0:Int)(a1:List Yb)(a2:List Ya)(a3:List (Int))(a4:Int)(a5:B8):Option ((List Ya) × B8 × Int) :=
 (impl_Running_writeAt a2 a4 a5).bind fun r0 =>
 if r0.2 then
 (chk (decide (0<=a4)&&decide (a4<a2.length)) <|
 chk true <|
 chk (decide (0<=a4)&&decide (a4<a2.length)) <|
 chk (decide (0<=r0.1)&&(decide (r0.1<(((a2.getD (Int.toNat a4) (0,(0,([],([],(0,(0,false))))))).2.2.2.1.length:Nat):Int)))) <|
 chk (decide (0<=a4)&&decide (a4<a2.length)) <|
 some (a2,((a2.getD (Int.toNat a4) (0,(0,([],([],(0,(0,false))))))).2.2.2.1.getD (Int.toNat r0.1) ([],[])).2,(0:Int)))
 else
 chk (decide (0<=a4)&&decide (a4<a2.length)) <|
 chk true <|
 let j1:Unit->Option _:=fun s2 =>
 ((impl_Store_at a0 a1 a2 a3 a5).bind fun r3 =>
 let j4:B8 × Int × Int × Bool->Option _:=fun s5 =>
 (chk (decide (0<=a4)&&decide (a4<a2.length)) <|
 chk true <|
 chk (decide (0<=a4)&&decide (a4<a2.length)) <|
 if (decide ((((a2.getD (Int.toNat a4) (0,(0,([],([],(0,(0,false))))))).2.2.1.length:Nat):Int)=(40:Int))) then
 (some (a2,([]:B8),(4:Int)))
 else
 chk (decide (0<=a4)&&decide (a4<a2.length)) <|
 chk true <|
 let v6:List Yc:=((a5,(s5.1,(s5.2.1,(s5.2.2.1,s5.2.2.2))))::([]:List Yc))
 chk (decide (0<=a4)&&decide (a4<a2.length)) <|
 let v7:List Yc:=(a2.getD (Int.toNat a4) (0,(0,([],([],(0,(0,false))))))).2.2.1
 let v8:List Yc:=(v7++v6)
 chk (decide ((v8.length:Int)<=(2513169434916:Int))) <|
 chk (decide (0<=a4)&&decide (a4<a2.length)) <|
 chk (decide (0<=a4)&&decide (a4<a2.length)) <|
 chk (decide (0<=a4)) <|
 let v9:List Ya:=(a2.set (Int.toNat a4) ((a2.getD (Int.toNat a4) (0,(0,([],([],(0,(0,false))))))).1,((a2.getD (Int.toNat a4) (0,(0,([],([],(0,(0,false))))))).2.1,(v8,(a2.getD (Int.toNat a4) (0,(0,([],([],(0,(0,false))))))).2.2.2))))
 some (v9,s5.1,(0:Int)))
 if r3.2 then
 (chk (decide (0<=r3.1)&&decide (r3.1<a1.length)) <|
 let v10:B8 × B8 × Int × Int × Bool × Int:=(a1.getD (Int.toNat r3.1) ([],([],(0,(0,(false,0))))))
 if v10.2.2.2.2.1 then
 (some (a2,([]:B8),(2:Int)))
 else
 j4 (v10.2.1,v10.2.2.1,v10.2.2.2.1,v10.2.2.2.2.1))
 else
 j4 (([]:B8),(0:Int),(0:Int),false))
 chk (decide (0<=a4)&&decide (a4<a2.length)) <|
 (loopM (σ:=(List Yc) × Int) (X:=Unit ⊕ ((List Ya) × B8 × Int)) (fun s11 =>
 (chk (decide (0<=a4)&&decide (a4<a2.length)) <|
 if (decide (s11.2<(((a2.getD (Int.toNat a4) (0,(0,([],([],(0,(0,false))))))).2.2.1.length:Nat):Int))) then
 (let j12:List Yc->Option _:=fun s13 =>
 (some (.inl (s13,i64 (s11.2+1))))
 chk (decide (0<=s11.2)&&decide (s11.2<s11.1.length)) <|
 let v14:B8 × B8 × Int × Int × Bool:=(s11.1.getD (Int.toNat s11.2) ([],([],(0,(0,false)))))
 if (decide (v14.1=a5)) then
 (some (.inr (.inr (a2,v14.2.1,(0:Int)))))
 else
 j12 s11.1)
 else
 some (.inr (.inl ())))) ((a2.getD (Int.toNat a4) (0,(0,([],([],(0,(0,false))))))).2.2.1,(0:Int))).bind fun x15 =>
 sumE x15 (fun y16 =>
 j1 ()) (fun z17 =>
 some (z17.1,z17.2.1,z17.2.2))
noncomputable def slices_Insert__impl_Cell_impl_Cell(a0:List Yd)(a1:Int)(a2:List Yd):Option (List Yd) :=
 chk (decide (0<=a1)) <|
 chk (decide (a1<=(a0.length:Int))) <|
 chk (decide ((a2.length:Int)=(1:Int))) <|
 chk (decide ((a0.length:Int)<=(4398046511103:Int))) <|
 some (((a0.take (Int.toNat a1)).drop (Int.toNat (0:Int)))++(a2++((a0.take (Int.toNat (a0.length:Int))).drop (Int.toNat a1))))
noncomputable def slices_Insert__impl_Record_impl_Record(a0:List Yb)(a1:Int)(a2:List Yb):Option (List Yb) :=
 chk (decide (0<=a1)) <|
 chk (decide (a1<=(a0.length:Int))) <|
 chk (decide ((a2.length:Int)=(1:Int))) <|
 chk (decide ((a0.length:Int)<=(2199023255551:Int))) <|
 some (((a0.take (Int.toNat a1)).drop (Int.toNat (0:Int)))++(a2++((a0.take (Int.toNat (a0.length:Int))).drop (Int.toNat a1))))
noncomputable def impl_Store_lock(a0:Int)(a1:List Yb)(a2:List Ya)(a3:List (Int))(a4:Int):Option Yq :=
 chk (decide (0<=a4)&&decide (a4<a2.length)) <|
 chk true <|
 let j0:Int->Option _:=fun s1 =>
 (if (decide ((40:Int)<(i64 ((a1.length:Int)+s1)))) then
 (some (a2,a0,a1,(4:Int)))
 else
 chk (decide (0<=a4)&&decide (a4<a2.length)) <|
 chk true <|
 (chk (decide (0<=a4)&&decide (a4<a2.length)) <|
 (loopM (σ:=(List Yb) × (List Yd) × Int) (X:=List Yb) (fun s2 =>
 (chk (decide (0<=a4)&&decide (a4<a2.length)) <|
 if (decide (s2.2.2<(((a2.getD (Int.toNat a4) (0,(0,([],([],(0,(0,false))))))).2.2.2.1.length:Nat):Int))) then
 ((chk (decide (0<=s2.2.2)&&decide (s2.2.2<s2.2.1.length)) <|
 let v3:B8 × B8:=(s2.2.1.getD (Int.toNat s2.2.2) ([],[]))
 (impl_Store_at a0 s2.1 a2 a3 v3.1).bind fun r4 =>
 (if (!r4.2) then
 (let v5:List Yb:=((v3.1,(([]:B8),((0:Int),((0:Int),(false,(0:Int))))))::([]:List Yb))
 (slices_Insert__impl_Record_impl_Record s2.1 r4.1 v5).bind fun r6 =>
 some (r6,s2.2.1):Option ((List Yb) × List Yd))
 else
 (some (s2.1,s2.2.1))).bind fun s7 =>
 chk (decide (0<=r4.1)&&decide (r4.1<s7.1.length)) <|
 chk (decide (0<=a4)&&decide (a4<a2.length)) <|
 let v8:List Yb:=(s7.1.set (Int.toNat r4.1) ((s7.1.getD (Int.toNat r4.1) ([],([],(0,(0,(false,0)))))).1,((s7.1.getD (Int.toNat r4.1) ([],([],(0,(0,(false,0)))))).2.1,((s7.1.getD (Int.toNat r4.1) ([],([],(0,(0,(false,0)))))).2.2.1,((s7.1.getD (Int.toNat r4.1) ([],([],(0,(0,(false,0)))))).2.2.2.1,((s7.1.getD (Int.toNat r4.1) ([],([],(0,(0,(false,0)))))).2.2.2.2.1,(a2.getD (Int.toNat a4) (0,(0,([],([],(0,(0,false))))))).1))))))
 chk (decide (0<=r4.1)&&decide (r4.1<v8.length)) <|
 let v9:List Yb:=(v8.set (Int.toNat r4.1) ((v8.getD (Int.toNat r4.1) ([],([],(0,(0,(false,0)))))).1,((v8.getD (Int.toNat r4.1) ([],([],(0,(0,(false,0)))))).2.1,((v8.getD (Int.toNat r4.1) ([],([],(0,(0,(false,0)))))).2.2.1,((v8.getD (Int.toNat r4.1) ([],([],(0,(0,(false,0)))))).2.2.2.1,(true,(v8.getD (Int.toNat r4.1) ([],([],(0,(0,(false,0)))))).2.2.2.2.2))))))
 some (v9,s7.2):Option ((List Yb) × List Yd)).bind fun s10 =>
 some (.inl (s10.1,s10.2,i64 (s2.2.2+1))))
 else
 some (.inr s2.1))) (a1,(a2.getD (Int.toNat a4) (0,(0,([],([],(0,(0,false))))))).2.2.2.1,(0:Int))).bind fun x11 =>
 some x11:Option (List Yb)).bind fun s12 =>
 chk (decide (0<=a4)&&decide (a4<a2.length)) <|
 chk (decide (0<=a4)) <|
 let v13:List Ya:=(a2.set (Int.toNat a4) ((a2.getD (Int.toNat a4) (0,(0,([],([],(0,(0,false))))))).1,((2:Int),(a2.getD (Int.toNat a4) (0,(0,([],([],(0,(0,false))))))).2.2)))
 some (v13,a0,s12,(0:Int)))
 chk (decide (0<=a4)&&decide (a4<a2.length)) <|
 (loopM (σ:=Int × (List Yd) × Int) (X:=(Int) ⊕ Yq) (fun s14 =>
 (chk (decide (0<=a4)&&decide (a4<a2.length)) <|
 if (decide (s14.2.2<(((a2.getD (Int.toNat a4) (0,(0,([],([],(0,(0,false))))))).2.2.2.1.length:Nat):Int))) then
 (let j15:Int × List Yd->Option _:=fun s16 =>
 (some (.inl (s16.1,s16.2,i64 (s14.2.2+1))))
 chk (decide (0<=s14.2.2)&&decide (s14.2.2<s14.2.1.length)) <|
 let v17:B8 × B8:=(s14.2.1.getD (Int.toNat s14.2.2) ([],[]))
 (impl_Store_at a0 a1 a2 a3 v17.1).bind fun r18 =>
 let j19:Int × List Yd->Option _:=fun s20 =>
 (j15 (s20.1,s20.2))
 if (!r18.2) then
 (j19 (i64 (s14.1+1),s14.2.1))
 else
 chk (decide (0<=r18.1)&&decide (r18.1<a1.length)) <|
 if (!decide ((a1.getD (Int.toNat r18.1) ([],([],(0,(0,(false,0)))))).2.2.2.2.2=(0:Int))) then
 (some (.inr (.inr (a2,a0,a1,(2:Int)))))
 else
 j19 (s14.1,s14.2.1))
 else
 some (.inr (.inl s14.1)))) ((0:Int),(a2.getD (Int.toNat a4) (0,(0,([],([],(0,(0,false))))))).2.2.2.1,(0:Int))).bind fun x21 =>
 sumE x21 (fun y22 =>
 j0 y22) (fun z23 =>
 some (z23.1,z23.2.1,z23.2.2.1,z23.2.2.2))
noncomputable def impl_Store_letGo(a0:Int)(a1:List Yb)(a2:List Ya)(a3:List (Int))(a4:Int):Option ((List Yb) × List Ya) :=
 ((loopM (σ:=(List Yb) × Int) (X:=List Yb) (fun s0 =>
 (if (decide (s0.2<a1.length)) then
 ((chk (decide (0<=s0.2)&&decide (s0.2<s0.1.length)) <|
 chk (decide (0<=a4)&&decide (a4<a2.length)) <|
 (if (decide ((s0.1.getD (Int.toNat s0.2) ([],([],(0,(0,(false,0)))))).2.2.2.2.2=(a2.getD (Int.toNat a4) (0,(0,([],([],(0,(0,false))))))).1)) then
 (chk (decide (0<=s0.2)&&decide (s0.2<s0.1.length)) <|
 let v1:List Yb:=(s0.1.set (Int.toNat s0.2) ((s0.1.getD (Int.toNat s0.2) ([],([],(0,(0,(false,0)))))).1,((s0.1.getD (Int.toNat s0.2) ([],([],(0,(0,(false,0)))))).2.1,((s0.1.getD (Int.toNat s0.2) ([],([],(0,(0,(false,0)))))).2.2.1,((s0.1.getD (Int.toNat s0.2) ([],([],(0,(0,(false,0)))))).2.2.2.1,((s0.1.getD (Int.toNat s0.2) ([],([],(0,(0,(false,0)))))).2.2.2.2.1,(0:Int)))))))
 chk (decide (0<=s0.2)&&decide (s0.2<v1.length)) <|
 let v2:List Yb:=(v1.set (Int.toNat s0.2) ((v1.getD (Int.toNat s0.2) ([],([],(0,(0,(false,0)))))).1,((v1.getD (Int.toNat s0.2) ([],([],(0,(0,(false,0)))))).2.1,((v1.getD (Int.toNat s0.2) ([],([],(0,(0,(false,0)))))).2.2.1,((v1.getD (Int.toNat s0.2) ([],([],(0,(0,(false,0)))))).2.2.2.1,(false,(v1.getD (Int.toNat s0.2) ([],([],(0,(0,(false,0)))))).2.2.2.2.2))))))
 some v2:Option (List Yb))
 else
 (some s0.1)).bind fun s3 =>
 some s3:Option (List Yb)).bind fun s4 =>
 some (.inl (s4,i64 (s0.2+1))))
 else
 some (.inr s0.1))) (a1,(0:Int))).bind fun x5 =>
 some x5:Option (List Yb)).bind fun s6 =>
 chk (decide (0<=a4)&&decide (a4<a2.length)) <|
 chk (decide (0<=a4)) <|
 let v7:List Ya:=(a2.set (Int.toNat a4) ((a2.getD (Int.toNat a4) (0,(0,([],([],(0,(0,false))))))).1,((5:Int),(a2.getD (Int.toNat a4) (0,(0,([],([],(0,(0,false))))))).2.2)))
 some (s6,v7)
noncomputable def impl_NextTid(a0:List Ye)(a1:Int):Option (Int × Int × Bool × Bool) :=
 (if (!(decide ((60:Int)<a0.length))) then impl_in a1 (0:Int) (1048575:Int) else some false).bind fun r0 =>
 let v1:Bool:=(if (decide ((60:Int)<a0.length)) then true else (!r0))
 if v1 then
 (some ((0:Int),(0:Int),false,false))
 else
 let j2:Int->Option _:=fun s3 =>
 (if (decide ((16777215:Int)<s3)) then
 (some ((0:Int),(0:Int),false,false))
 else
 some (a1,s3,false,true))
 (loopM (σ:=Ys) (X:=(Int) ⊕ (Int × Int × Bool × Bool)) (fun s4 =>
 (if (decide (s4.2<a0.length)) then
 (let j5:Int->Option _:=fun s6 =>
 (some (.inl (s6,i64 (s4.2+1))))
 chk (decide (0<=s4.2)&&decide (s4.2<a0.length)) <|
 let v7:Int × Int × Bool:=(a0.getD (Int.toNat s4.2) (0,(0,false)))
 (impl_isTid v7.1 v7.2.1 v7.2.2).bind fun r8 =>
 let v9:Bool:=(if (!r8) then true else (decide (a1<v7.1)))
 if v9 then
 (some (.inr (.inr ((0:Int),(0:Int),false,false))))
 else
 (if (decide (v7.1=a1)) then
 (some (max s4.1 (i64 (v7.2.1+1))):Option (Int))
 else
 (some s4.1)).bind fun s10 =>
 j5 s10)
 else
 some (.inr (.inl s4.1)))) ((0:Int),(0:Int))).bind fun x11 =>
 sumE x11 (fun y12 =>
 j2 y12) (fun z13 =>
 some (z13.1,z13.2.1,z13.2.2.1,z13.2.2.2))
noncomputable def impl_Store_check(a0:Int)(a1:List Yb)(a2:List Ya)(a3:List (Int))(a4:Int):Option ((List Yb) × (List Ya) × Int × (List Int) × Int) :=
 chk (decide (0<=a4)&&decide (a4<a2.length)) <|
 chk true <|
 let j0:List Ye->Option _:=fun s1 =>
 (chk (decide (0<=a4)&&decide (a4<a2.length)) <|
 chk true <|
 (chk (decide (0<=a4)&&decide (a4<a2.length)) <|
 (loopM (σ:=(List Ye) × (List Yd) × Int) (X:=List Ye) (fun s2 =>
 (chk (decide (0<=a4)&&decide (a4<a2.length)) <|
 if (decide (s2.2.2<(((a2.getD (Int.toNat a4) (0,(0,([],([],(0,(0,false))))))).2.2.2.1.length:Nat):Int))) then
 ((chk (decide (0<=s2.2.2)&&decide (s2.2.2<s2.2.1.length)) <|
 let v3:B8 × B8:=(s2.2.1.getD (Int.toNat s2.2.2) ([],[]))
 (impl_Store_at a0 a1 a2 a3 v3.1).bind fun r4 =>
 chk (decide (0<=r4.1)&&decide (r4.1<a1.length)) <|
 let v5:B8 × B8 × Int × Int × Bool × Int:=(a1.getD (Int.toNat r4.1) ([],([],(0,(0,(false,0))))))
 let v6:List Ye:=((v5.2.2.1,(v5.2.2.2.1,v5.2.2.2.2.1))::([]:List Ye))
 let v7:List Ye:=(s2.1++v6)
 chk (decide ((v7.length:Int)<=(5864062014805:Int))) <|
 some (v7,s2.2.1):Option ((List Ye) × List Yd)).bind fun s8 =>
 some (.inl (s8.1,s8.2,i64 (s2.2.2+1))))
 else
 some (.inr s2.1))) (s1,(a2.getD (Int.toNat a4) (0,(0,([],([],(0,(0,false))))))).2.2.2.1,(0:Int))).bind fun x9 =>
 some x9:Option (List Ye)).bind fun s10 =>
 (impl_NextTid s10 a0).bind fun r11 =>
 if (!r11.2.2.2) then
 (some (a1,a2,a0,a3,(4:Int)))
 else
 chk (decide (0<=a4)&&decide (a4<a2.length)) <|
 chk (decide (0<=a4)) <|
 let v12:List Ya:=(a2.set (Int.toNat a4) ((a2.getD (Int.toNat a4) (0,(0,([],([],(0,(0,false))))))).1,((a2.getD (Int.toNat a4) (0,(0,([],([],(0,(0,false))))))).2.1,((a2.getD (Int.toNat a4) (0,(0,([],([],(0,(0,false))))))).2.2.1,((a2.getD (Int.toNat a4) (0,(0,([],([],(0,(0,false))))))).2.2.2.1,((r11.1,(a2.getD (Int.toNat a4) (0,(0,([],([],(0,(0,false))))))).2.2.2.2.2).1,((r11.2.1,(r11.1,(a2.getD (Int.toNat a4) (0,(0,([],([],(0,(0,false))))))).2.2.2.2.2).2.2).1,r11.2.2.1)))))))
 chk (decide (0<=a4)&&decide (a4<v12.length)) <|
 chk (decide (0<=a4)) <|
 let v13:List Ya:=(v12.set (Int.toNat a4) ((v12.getD (Int.toNat a4) (0,(0,([],([],(0,(0,false))))))).1,((3:Int),(v12.getD (Int.toNat a4) (0,(0,([],([],(0,(0,false))))))).2.2)))
 chk (decide (0<=a4)&&decide (a4<v13.length)) <|
 let v14:List (Int):=((v13.getD (Int.toNat a4) (0,(0,([],([],(0,(0,false))))))).1::([]:List (Int)))
 let v15:List (Int):=(a3++v14)
 chk (decide ((v15.length:Int)<=(17592186044416:Int))) <|
 some (a1,v13,a0,v15,(0:Int)))
 chk (decide (0<=a4)&&decide (a4<a2.length)) <|
 (loopM (σ:=(List Ye) × (List Yc) × Int) (X:=(List Ye) ⊕ ((List Yb) × (List Ya) × Int × (List Int) × Int)) (fun s16 =>
 (chk (decide (0<=a4)&&decide (a4<a2.length)) <|
 if (decide (s16.2.2<(((a2.getD (Int.toNat a4) (0,(0,([],([],(0,(0,false))))))).2.2.1.length:Nat):Int))) then
 (let j17:(List Ye) × List Yc->Option _:=fun s18 =>
 (some (.inl (s18.1,s18.2,i64 (s16.2.2+1))))
 chk (decide (0<=s16.2.2)&&decide (s16.2.2<s16.2.1.length)) <|
 let v19:B8 × B8 × Int × Int × Bool:=(s16.2.1.getD (Int.toNat s16.2.2) ([],([],(0,(0,false)))))
 (impl_Store_at a0 a1 a2 a3 v19.1).bind fun r20 =>
 (if r20.2 then
 (chk (decide (0<=r20.1)&&decide (r20.1<a1.length)) <|
 let v21:B8 × B8 × Int × Int × Bool × Int:=(a1.getD (Int.toNat r20.1) ([],([],(0,(0,(false,0))))))
 some (v21.1,v21.2.1,v21.2.2.1,v21.2.2.2.1,v21.2.2.2.2.1,v21.2.2.2.2.2,s16.2.1):Option (B8 × B8 × Int × Int × Bool × Int × List Yc))
 else
 (some (([]:B8),([]:B8),(0:Int),(0:Int),false,(0:Int),s16.2.1))).bind fun s22 =>
 (impl_compareTid s22.2.2.1 s22.2.2.2.1 s22.2.2.2.2.1 v19.2.2.1 v19.2.2.2.1 v19.2.2.2.2).bind fun r23 =>
 chk (!(!(!decide (r23=(0:Int))))||(!(!decide (s22.2.2.2.2.2.1=(0:Int)))||(decide (0<=a4)&&decide (a4<a2.length)))) <|
 let v24:Bool:=(if (!decide (s22.2.2.2.2.2.1=(0:Int))) then (!decide (s22.2.2.2.2.2.1=(a2.getD (Int.toNat a4) (0,(0,([],([],(0,(0,false))))))).1)) else false)
 let v25:Bool:=(if (!decide (r23=(0:Int))) then true else v24)
 if v25 then
 ((impl_Store_letGo a0 a1 a2 a3 a4).bind fun r26 =>
 some (.inr (.inr (r26.1,r26.2,a0,a3,(3:Int)))))
 else
 let v27:List Ye:=((v19.2.2.1,(v19.2.2.2.1,v19.2.2.2.2))::([]:List Ye))
 let v28:List Ye:=(s16.1++v27)
 chk (decide ((v28.length:Int)<=(5864062014805:Int))) <|
 j17 (v28,s22.2.2.2.2.2.2))
 else
 some (.inr (.inl s16.1)))) (([]:List Ye),(a2.getD (Int.toNat a4) (0,(0,([],([],(0,(0,false))))))).2.2.1,(0:Int))).bind fun x29 =>
 sumE x29 (fun y30 =>
 j0 y30) (fun z31 =>
 some (z31.1,z31.2.1,z31.2.2.1,z31.2.2.2.1,z31.2.2.2.2))
noncomputable def impl_Store_do(a0:Int)(a1:List Yb)(a2:List Ya)(a3:List (Int))(a4:Int)(a5:Int)(a6:B8)(a7:B8):Option Yj :=
 if (decide (a4=(1:Int))) then
 (let j0:Unit->Option _:=fun s1 =>
 (let v2:List Ya:=(((i64 ((a2.length:Int)+(1:Int))),((1:Int),(([]:List Yc),(([]:List Yd),((0:Int),((0:Int),false))))))::([]:List Ya))
 let v3:List Ya:=(a2++v2)
 chk (decide ((v3.length:Int)<=(1599289640401:Int))) <|
 (strconv_Itoa (i64 ((a2.length:Int)+(1:Int)))).bind fun r4 =>
 some (a0,a1,v3,a3,r4,(0:Int)))
 if (!decide (a5=(0:Int))) then
 (some (a0,a1,a2,a3,([]:B8),(1:Int)))
 else
 if (decide ((a2.length:Int)=(20:Int))) then
 (some (a0,a1,a2,a3,([]:B8),(4:Int)))
 else
 j0 ())
 else
 (impl_in a5 (1:Int) (a2.length:Int)).bind fun r5 =>
 if (!r5) then
 (some (a0,a1,a2,a3,([]:B8),(1:Int)))
 else
 chk ((decide (0<=(i64 (a5-1))))&&(decide ((i64 (a5-1))<a2.length))) <|
 ((if (decide (a4=(5:Int))) then
 (some (2:Int):Option (Int))
 else
 ((if (decide (a4=(6:Int))) then
 (some (3:Int):Option (Int))
 else
 (some (1:Int))).bind fun s6 =>
 some s6)).bind fun s7 =>
 some s7:Option (Int)).bind fun s8 =>
 let v9:Bool:=(if (decide (a4=(2:Int))) then true else (decide (a4=(3:Int))))
 (impl_in a4 (2:Int) (7:Int)).bind fun r10 =>
 let v11:Bool:=(if (!decide (a4=(7:Int))) then true else (!decide ((a2.getD (Int.toNat (i64 (a5-1))) (0,(0,([],([],(0,(0,false))))))).2.1=(2:Int))))
 let v12:Bool:=(if (!decide ((a2.getD (Int.toNat (i64 (a5-1))) (0,(0,([],([],(0,(0,false))))))).2.1=s8)) then v11 else false)
 let v13:Bool:=(if (!r10) then true else v12)
 (if ((!v13)&&v9) then impl_isKey a6 else some false).bind fun r14 =>
 let v15:Bool:=(if v9 then (!r14) else false)
 let v16:Bool:=(if v13 then true else v15)
 (if ((!v16)&&(decide (a4=(3:Int)))) then impl_isValue a7 else some false).bind fun r17 =>
 let v18:Bool:=(if (decide (a4=(3:Int))) then (!r17) else false)
 let v19:Bool:=(if v16 then true else v18)
 if v19 then
 (some (a0,a1,a2,a3,([]:B8),(1:Int)))
 else
 let j20:(List Yb) × List Ya->Option _:=fun s21 =>
 (some (a0,s21.1,s21.2,a3,([]:B8),(0:Int)))
 if (decide (a4=(2:Int))) then
 ((impl_Store_read a0 a1 a2 a3 (i64 (a5-1)) a6).bind fun r22 =>
 some (a0,a1,r22.1,a3,r22.2.1,r22.2.2))
 else
 let j23:(List Yb) × List Ya->Option _:=fun s24 =>
 (j20 (s24.1,s24.2))
 if (decide (a4=(3:Int))) then
 ((impl_Running_writeAt a2 (i64 (a5-1)) a6).bind fun r25 =>
 (if r25.2 then
 (chk true <|
 chk (decide (0<=r25.1)&&(decide (r25.1<(((a2.getD (Int.toNat (i64 (a5-1))) (0,(0,([],([],(0,(0,false))))))).2.2.2.1.length:Nat):Int)))) <|
 let v26:List Yd:=(a2.getD (Int.toNat (i64 (a5-1))) (0,(0,([],([],(0,(0,false))))))).2.2.2.1
 chk (decide (0<=r25.1)&&decide (r25.1<v26.length)) <|
 chk (decide (0<=r25.1)) <|
 let v27:List Yd:=(v26.set (Int.toNat r25.1) ((v26.getD (Int.toNat r25.1) ([],[])).1,a7))
 let v28:List Ya:=(a2.set (Int.toNat (i64 (a5-1))) ((a2.getD (Int.toNat (i64 (a5-1))) (0,(0,([],([],(0,(0,false))))))).1,((a2.getD (Int.toNat (i64 (a5-1))) (0,(0,([],([],(0,(0,false))))))).2.1,((a2.getD (Int.toNat (i64 (a5-1))) (0,(0,([],([],(0,(0,false))))))).2.2.1,(v27,(a2.getD (Int.toNat (i64 (a5-1))) (0,(0,([],([],(0,(0,false))))))).2.2.2.2)))))
 some v28:Option (List Ya))
 else
 (chk true <|
 let v29:List Yd:=((a6,a7)::([]:List Yd))
 let v30:List Yd:=(a2.getD (Int.toNat (i64 (a5-1))) (0,(0,([],([],(0,(0,false))))))).2.2.2.1
 (slices_Insert__impl_Cell_impl_Cell v30 r25.1 v29).bind fun r31 =>
 let v32:List Ya:=(a2.set (Int.toNat (i64 (a5-1))) ((a2.getD (Int.toNat (i64 (a5-1))) (0,(0,([],([],(0,(0,false))))))).1,((a2.getD (Int.toNat (i64 (a5-1))) (0,(0,([],([],(0,(0,false))))))).2.1,((a2.getD (Int.toNat (i64 (a5-1))) (0,(0,([],([],(0,(0,false))))))).2.2.1,(r31,(a2.getD (Int.toNat (i64 (a5-1))) (0,(0,([],([],(0,(0,false))))))).2.2.2.2)))))
 some v32)).bind fun s33 =>
 j23 (a1,s33))
 else
 if (decide (a4=(4:Int))) then
 ((impl_Store_lock a0 a1 a2 a3 (i64 (a5-1))).bind fun r34 =>
 some (r34.2.1,r34.2.2.1,((r34.1.take (Int.toNat (a2.length:Int))).drop (Int.toNat (0:Int))),a3,([]:B8),r34.2.2.2))
 else
 if (decide (a4=(5:Int))) then
 ((impl_Store_check a0 a1 a2 a3 (i64 (a5-1))).bind fun r35 =>
 some (r35.2.2.1,((r35.1.take (Int.toNat (a1.length:Int))).drop (Int.toNat (0:Int))),((r35.2.1.take (Int.toNat (a2.length:Int))).drop (Int.toNat (0:Int))),r35.2.2.2.1,([]:B8),r35.2.2.2.2))
 else
 (if (decide (a4=(6:Int))) then
 (chk true <|
 ((loopM (σ:=(List Yb) × (List Yd) × Int) (X:=List Yb) (fun s36 =>
 (if (decide (s36.2.2<(((a2.getD (Int.toNat (i64 (a5-1))) (0,(0,([],([],(0,(0,false))))))).2.2.2.1.length:Nat):Int))) then
 ((chk (decide (0<=s36.2.2)&&decide (s36.2.2<s36.2.1.length)) <|
 let v37:B8 × B8:=(s36.2.1.getD (Int.toNat s36.2.2) ([],[]))
 (impl_Store_at a0 s36.1 a2 a3 v37.1).bind fun r38 =>
 let v39:Int × Int × (List Yc) × (List Yd) × Int × Int × Bool:=(a2.getD (Int.toNat (i64 (a5-1))) (0,(0,([],([],(0,(0,false)))))))
 chk (decide (0<=r38.1)&&decide (r38.1<s36.1.length)) <|
 let v40:List Yb:=(s36.1.set (Int.toNat r38.1) (v37.1,(v37.2,(v39.2.2.2.2.1,(v39.2.2.2.2.2.1,(v39.2.2.2.2.2.2,(0:Int)))))))
 some (v40,s36.2.1):Option ((List Yb) × List Yd)).bind fun s41 =>
 some (.inl (s41.1,s41.2,i64 (s36.2.2+1))))
 else
 some (.inr s36.1))) (a1,(a2.getD (Int.toNat (i64 (a5-1))) (0,(0,([],([],(0,(0,false))))))).2.2.2.1,(0:Int))).bind fun x42 =>
 some x42:Option (List Yb)).bind fun s43 =>
 let v44:List Ya:=(a2.set (Int.toNat (i64 (a5-1))) ((a2.getD (Int.toNat (i64 (a5-1))) (0,(0,([],([],(0,(0,false))))))).1,((4:Int),(a2.getD (Int.toNat (i64 (a5-1))) (0,(0,([],([],(0,(0,false))))))).2.2)))
 some (s43,v44):Option ((List Yb) × List Ya))
 else
 ((if (decide (a4=(7:Int))) then
 ((impl_Store_letGo a0 a1 a2 a3 (i64 (a5-1))).bind fun r45 =>
 some (r45.1,r45.2):Option ((List Yb) × List Ya))
 else
 (some (a1,a2))).bind fun s46 =>
 some (s46.1,s46.2))).bind fun s47 =>
 j23 (s47.1,s47.2)
noncomputable def impl_doStep(a0:Int)(a1:List Yb)(a2:List Ya)(a3:List (Int))(a4:Int)(a5:Int)(a6:B8)(a7:B8):Option Yj :=
 (impl_copyStore a0 a1 a2 a3).bind fun r0 =>
 (impl_Store_do r0.1 r0.2.1 r0.2.2.1 r0.2.2.2 a4 a5 a6 a7).bind fun r1 =>
 let v2:Bool:=(if (!decide (r1.2.2.2.2.2=(0:Int))) then (!decide (r1.2.2.2.2.2=(3:Int))) else false)
 if v2 then
 ((impl_copyStore a0 a1 a2 a3).bind fun r3 =>
 some (r3.1,r3.2.1,r3.2.2.1,r3.2.2.2,([]:B8),r1.2.2.2.2.2))
 else
 some (r1.1,r1.2.1,r1.2.2.1,r1.2.2.2.1,r1.2.2.2.2.1,r1.2.2.2.2.2)
noncomputable def impl_PlayStore(a0:Int)(a1:List Yf):Option Ym :=
 (impl_in a0 (1:Int) (1000:Int)).bind fun r0 =>
 let v1:Bool:=(if (!r0) then true else (decide ((120:Int)<a1.length)))
 if v1 then
 (some ((0:Int),([]:List Yb),([]:List Ya),([]:List (Int)),([]:List (Int)),false))
 else
 ((loopM (σ:=Yn) (X:=Yg) (fun s2 =>
 (if (decide (s2.2.2.2.2.2<a1.length)) then
 ((chk (decide (0<=s2.2.2.2.2.2)&&decide (s2.2.2.2.2.2<a1.length)) <|
 let v3:Int × Int × B8 × B8:=(a1.getD (Int.toNat s2.2.2.2.2.2) (0,(0,([],[]))))
 (impl_doStep s2.1 s2.2.1 s2.2.2.1 s2.2.2.2.1 v3.1 v3.2.1 v3.2.2.1 v3.2.2.2).bind fun r4 =>
 let v5:List (Int):=(r4.2.2.2.2.2::([]:List (Int)))
 let v6:List (Int):=(s2.2.2.2.2.1++v5)
 chk (decide ((v6.length:Int)<=(17592186044416:Int))) <|
 some (r4.1,r4.2.1,r4.2.2.1,r4.2.2.2.1,v6):Option Yg).bind fun s7 =>
 some (.inl (s7.1,s7.2.1,s7.2.2.1,s7.2.2.2.1,s7.2.2.2.2,i64 (s2.2.2.2.2.2+1))))
 else
 some (.inr (s2.1,s2.2.1,s2.2.2.1,s2.2.2.2.1,s2.2.2.2.2.1)))) (a0,([]:List Yb),([]:List Ya),([]:List (Int)),([]:List (Int)),(0:Int))).bind fun x8 =>
 some (x8.1,x8.2.1,x8.2.2.1,x8.2.2.2.1,x8.2.2.2.2):Option Yg).bind fun s9 =>
 some (s9.1,s9.2.1,s9.2.2.1,s9.2.2.2.1,s9.2.2.2.2,true)
noncomputable def spec_l5Own(a0:Int)(a1:List Yb)(a2:List Ya)(a3:List (Int)):Option Yo :=
 let v0:List Yb:=(([]:List Yb)++a1)
 chk (decide ((v0.length:Int)<=(2199023255552:Int))) <|
 let v1:List (Int):=(([]:List (Int))++a3)
 chk (decide ((v1.length:Int)<=(17592186044416:Int))) <|
 ((loopM (σ:=(List Ya) × Int) (X:=List Ya) (fun s2 =>
 (if (decide (s2.2<a2.length)) then
 ((chk (decide (0<=s2.2)&&decide (s2.2<a2.length)) <|
 let v3:Int × Int × (List Yc) × (List Yd) × Int × Int × Bool:=(a2.getD (Int.toNat s2.2) (0,(0,([],([],(0,(0,false)))))))
 chk true <|
 chk true <|
 let v4:List Yc:=(([]:List Yc)++v3.2.2.1)
 chk (decide ((v4.length:Int)<=(2513169434916:Int))) <|
 let v5:List Yd:=(([]:List Yd)++v3.2.2.2.1)
 chk (decide ((v5.length:Int)<=(4398046511104:Int))) <|
 let v6:List Ya:=((v3.1,(v3.2.1,(v4,(v5,(v3.2.2.2.2.1,(v3.2.2.2.2.2.1,v3.2.2.2.2.2.2))))))::([]:List Ya))
 let v7:List Ya:=(s2.1++v6)
 chk (decide ((v7.length:Int)<=(1599289640401:Int))) <|
 some v7:Option (List Ya)).bind fun s8 =>
 some (.inl (s8,i64 (s2.2+1))))
 else
 some (.inr s2.1))) (([]:List Ya),(0:Int))).bind fun x9 =>
 some x9:Option (List Ya)).bind fun s10 =>
 some (a0,v0,s10,v1)
noncomputable def spec_l1Num''''(a0:Int):Option B8 :=
 if (decide (a0<(10:Int))) then
 (let v0:List (Int):=((u8 (i64 ((48:Int)+a0)))::([]:List (Int)))
 let v1:B8:=(v0.map fun n=>UInt8.ofNat n.toNat)
 some v1)
 else
 (spec_l1Num''' (i64 (Int.tdiv a0 (10:Int)))).bind fun r2 =>
 let v3:List (Int):=((u8 (i64 ((48:Int)+(Int.tmod a0 (10:Int)))))::([]:List (Int)))
 let v4:B8:=(v3.map fun n=>UInt8.ofNat n.toNat)
 let v5:B8:=(r2++v4)
 chk (decide ((v5.length:Int)<=(4611686018427387904:Int))) <|
 some v5
noncomputable def spec_l1Num'''''(a0:Int):Option B8 :=
 if (decide (a0<(10:Int))) then
 (let v0:List (Int):=((u8 (i64 ((48:Int)+a0)))::([]:List (Int)))
 let v1:B8:=(v0.map fun n=>UInt8.ofNat n.toNat)
 some v1)
 else
 (spec_l1Num'''' (i64 (Int.tdiv a0 (10:Int)))).bind fun r2 =>
 let v3:List (Int):=((u8 (i64 ((48:Int)+(Int.tmod a0 (10:Int)))))::([]:List (Int)))
 let v4:B8:=(v3.map fun n=>UInt8.ofNat n.toNat)
 let v5:B8:=(r2++v4)
 chk (decide ((v5.length:Int)<=(4611686018427387904:Int))) <|
 some v5
noncomputable def spec_l1Num''''''(a0:Int):Option B8 :=
 if (decide (a0<(10:Int))) then
 (let v0:List (Int):=((u8 (i64 ((48:Int)+a0)))::([]:List (Int)))
 let v1:B8:=(v0.map fun n=>UInt8.ofNat n.toNat)
 some v1)
 else
 (spec_l1Num''''' (i64 (Int.tdiv a0 (10:Int)))).bind fun r2 =>
 let v3:List (Int):=((u8 (i64 ((48:Int)+(Int.tmod a0 (10:Int)))))::([]:List (Int)))
 let v4:B8:=(v3.map fun n=>UInt8.ofNat n.toNat)
 let v5:B8:=(r2++v4)
 chk (decide ((v5.length:Int)<=(4611686018427387904:Int))) <|
 some v5
noncomputable def spec_l1Num'''''''(a0:Int):Option B8 :=
 if (decide (a0<(10:Int))) then
 (let v0:List (Int):=((u8 (i64 ((48:Int)+a0)))::([]:List (Int)))
 let v1:B8:=(v0.map fun n=>UInt8.ofNat n.toNat)
 some v1)
 else
 (spec_l1Num'''''' (i64 (Int.tdiv a0 (10:Int)))).bind fun r2 =>
 let v3:List (Int):=((u8 (i64 ((48:Int)+(Int.tmod a0 (10:Int)))))::([]:List (Int)))
 let v4:B8:=(v3.map fun n=>UInt8.ofNat n.toNat)
 let v5:B8:=(r2++v4)
 chk (decide ((v5.length:Int)<=(4611686018427387904:Int))) <|
 some v5
noncomputable def spec_l1Num''''''''(a0:Int):Option B8 :=
 if (decide (a0<(10:Int))) then
 (let v0:List (Int):=((u8 (i64 ((48:Int)+a0)))::([]:List (Int)))
 let v1:B8:=(v0.map fun n=>UInt8.ofNat n.toNat)
 some v1)
 else
 (spec_l1Num''''''' (i64 (Int.tdiv a0 (10:Int)))).bind fun r2 =>
 let v3:List (Int):=((u8 (i64 ((48:Int)+(Int.tmod a0 (10:Int)))))::([]:List (Int)))
 let v4:B8:=(v3.map fun n=>UInt8.ofNat n.toNat)
 let v5:B8:=(r2++v4)
 chk (decide ((v5.length:Int)<=(4611686018427387904:Int))) <|
 some v5
noncomputable def spec_l5State(a0:Int)(a1:List Yb)(a2:List Ya)(a3:List (Int))(a4:Int):Option (Int) :=
 (spec_l1In a4 (1:Int) (a2.length:Int)).bind fun r0 =>
 if (!r0) then
 (some (0:Int))
 else
 chk ((decide (0<=(i64 (a4-1))))&&(decide ((i64 (a4-1))<a2.length))) <|
 some (a2.getD (Int.toNat (i64 (a4-1))) (0,(0,([],([],(0,(0,false))))))).2.1
noncomputable def spec_l5Find'(a0:Int)(a1:List Yb)(a2:List Ya)(a3:List (Int))(a4:B8):Option (B8 × B8 × Int × Int × Bool × Int × Bool) :=
 let j0:Unit->Option _:=fun s1 =>
 (some (a4,([]:B8),(0:Int),(0:Int),false,(0:Int),false))
 (loopM (σ:=Int) (X:=Unit ⊕ (B8 × B8 × Int × Int × Bool × Int × Bool)) (fun s2 =>
 (if (decide (s2<a1.length)) then
 (let j3:Unit->Option _:=fun s4 =>
 (some (.inl (i64 (s2+1))))
 chk (decide (0<=s2)&&decide (s2<a1.length)) <|
 let v5:B8 × B8 × Int × Int × Bool × Int:=(a1.getD (Int.toNat s2) ([],([],(0,(0,(false,0))))))
 if (decide (v5.1=a4)) then
 (some (.inr (.inr (v5.1,v5.2.1,v5.2.2.1,v5.2.2.2.1,v5.2.2.2.2.1,v5.2.2.2.2.2,true))))
 else
 j3 ())
 else
 some (.inr (.inl ())))) (0:Int)).bind fun x6 =>
 sumE x6 (fun y7 =>
 j0 ()) (fun z8 =>
 some (z8.1,z8.2.1,z8.2.2.1,z8.2.2.2.1,z8.2.2.2.2.1,z8.2.2.2.2.2.1,z8.2.2.2.2.2.2))
noncomputable def spec_l5Read(a0:Int)(a1:List Yb)(a2:List Ya)(a3:List (Int))(a4:Int)(a5:B8):Option ((List Ya) × Int × B8 × Int) :=
 chk ((decide (0<=(i64 (a4-1))))&&(decide ((i64 (a4-1))<a2.length))) <|
 let v0:Int × Int × (List Yc) × (List Yd) × Int × Int × Bool:=(a2.getD (Int.toNat (i64 (a4-1))) (0,(0,([],([],(0,(0,false)))))))
 chk true <|
 chk true <|
 let j1:(List Yc) × List Yd->Option _:=fun s2 =>
 (let j3:(List Yc) × List Yd->Option _:=fun s4 =>
 ((spec_l5Find' a0 a1 a2 a3 a5).bind fun r5 =>
 let j6:(List Yc) × List Yd->Option _:=fun s7 =>
 (let v8:List Yc:=((a5,(r5.2.1,(r5.2.2.1,(r5.2.2.2.1,r5.2.2.2.2.1))))::([]:List Yc))
 let v9:List Yc:=(s7.1++v8)
 chk (decide ((v9.length:Int)<=(2513169434916:Int))) <|
 chk ((decide (0<=(i64 (a4-1))))&&(decide ((i64 (a4-1))<a2.length))) <|
 let v10:List Ya:=(a2.set (Int.toNat (i64 (a4-1))) ((a2.getD (Int.toNat (i64 (a4-1))) (0,(0,([],([],(0,(0,false))))))).1,((a2.getD (Int.toNat (i64 (a4-1))) (0,(0,([],([],(0,(0,false))))))).2.1,(v9,(a2.getD (Int.toNat (i64 (a4-1))) (0,(0,([],([],(0,(0,false))))))).2.2.2))))
 some (v10,a0,r5.2.1,(0:Int)))
 if (!decide (r5.2.2.2.2.2.1=(0:Int))) then
 (some (a2,a0,([]:B8),(2:Int)))
 else
 if (decide ((s4.1.length:Int)=(40:Int))) then
 (some (a2,a0,([]:B8),(4:Int)))
 else
 j6 (s4.1,s4.2))
 (loopM (σ:=Yk) (X:=((List Yc) × List Yd) ⊕ ((List Ya) × Int × B8 × Int)) (fun s11 =>
 (if (decide (s11.2.2<s2.1.length)) then
 (let j12:(List Yc) × List Yd->Option _:=fun s13 =>
 (some (.inl (s13.1,s13.2,i64 (s11.2.2+1))))
 chk (decide (0<=s11.2.2)&&decide (s11.2.2<s11.1.length)) <|
 let v14:B8 × B8 × Int × Int × Bool:=(s11.1.getD (Int.toNat s11.2.2) ([],([],(0,(0,false)))))
 if (decide (v14.1=a5)) then
 (some (.inr (.inr (a2,a0,v14.2.1,(0:Int)))))
 else
 j12 (s11.1,s11.2.1))
 else
 some (.inr (.inl (s11.1,s11.2.1))))) (s2.1,s2.2,(0:Int))).bind fun x15 =>
 sumE x15 (fun y16 =>
 j3 (y16.1,y16.2)) (fun z17 =>
 some (z17.1,z17.2.1,z17.2.2.1,z17.2.2.2)))
 (loopM (σ:=Yk) (X:=((List Yc) × List Yd) ⊕ ((List Ya) × Int × B8 × Int)) (fun s18 =>
 (if (decide (s18.2.2<v0.2.2.2.1.length)) then
 (let j19:(List Yc) × List Yd->Option _:=fun s20 =>
 (some (.inl (s20.1,s20.2,i64 (s18.2.2+1))))
 chk (decide (0<=s18.2.2)&&decide (s18.2.2<s18.2.1.length)) <|
 let v21:B8 × B8:=(s18.2.1.getD (Int.toNat s18.2.2) ([],[]))
 if (decide (v21.1=a5)) then
 (some (.inr (.inr (a2,a0,v21.2,(0:Int)))))
 else
 j19 (s18.1,s18.2.1))
 else
 some (.inr (.inl (s18.1,s18.2.1))))) (v0.2.2.1,v0.2.2.2.1,(0:Int))).bind fun x22 =>
 sumE x22 (fun y23 =>
 j1 (y23.1,y23.2)) (fun z24 =>
 some (z24.1,z24.2.1,z24.2.2.1,z24.2.2.2))
noncomputable def spec_l3Cells(a0:List Yd)(a1:B8)(a2:B8):Option (List Yd) :=
 ((loopM (σ:=Int) (X:=Int) (fun s0 =>
 (chk (!(decide (s0<a0.length))||(decide (0<=s0)&&decide (s0<a0.length))) <|
 let v1:Bool:=(if (decide (s0<a0.length)) then (Op.bytesLess (a0.getD (Int.toNat s0) ([],[])).1 a1) else false)
 if v1 then
 ((some ():Option (Unit)).bind fun s2 =>
 some (.inl (i64 (s0+1))))
 else
 some (.inr s0))) (0:Int)).bind fun x3 =>
 some x3:Option (Int)).bind fun s4 =>
 chk ((decide ((0:Int)<=0))&&(decide (0<=s4)&&(decide (s4<=(a0.length:Int))))) <|
 let v5:List Yd:=(([]:List Yd)++((a0.take (Int.toNat s4)).drop (Int.toNat (0:Int))))
 chk (decide ((v5.length:Int)<=(4398046511104:Int))) <|
 let v6:List Yd:=((a1,a2)::([]:List Yd))
 let v7:List Yd:=(v5++v6)
 chk (decide ((v7.length:Int)<=(4398046511104:Int))) <|
 chk (!(decide (s4<a0.length))||(decide (0<=s4)&&decide (s4<a0.length))) <|
 let v8:Bool:=(if (decide (s4<a0.length)) then (decide ((a0.getD (Int.toNat s4) ([],[])).1=a1)) else false)
 (if v8 then
 (some (i64 (s4+1)):Option (Int))
 else
 (some s4)).bind fun s9 =>
 chk (decide (0<=s9)&&((decide (s9<=(a0.length:Int)))&&(decide ((a0.length:Int)<=(a0.length:Int))))) <|
 let v10:List Yd:=(v7++((a0.take (Int.toNat (s9+((a0.length:Int)-s9)))).drop (Int.toNat s9)))
 chk (decide ((v10.length:Int)<=(4398046511104:Int))) <|
 some v10
noncomputable def spec_l5Put'(a0:Int)(a1:List Yb)(a2:List Ya)(a3:List (Int))(a4:B8)(a5:B8)(a6:Int)(a7:Int)(a8:Bool)(a9:Int):Option (Int × List Yb) :=
 ((loopM (σ:=Int) (X:=Int) (fun s0 =>
 (chk (!(decide (s0<a1.length))||(decide (0<=s0)&&decide (s0<a1.length))) <|
 let v1:Bool:=(if (decide (s0<a1.length)) then (Op.bytesLess (a1.getD (Int.toNat s0) ([],([],(0,(0,(false,0)))))).1 a4) else false)
 if v1 then
 ((some ():Option (Unit)).bind fun s2 =>
 some (.inl (i64 (s0+1))))
 else
 some (.inr s0))) (0:Int)).bind fun x3 =>
 some x3:Option (Int)).bind fun s4 =>
 chk ((decide ((0:Int)<=0))&&(decide (0<=s4)&&(decide (s4<=(a1.length:Int))))) <|
 let v5:List Yb:=(([]:List Yb)++((a1.take (Int.toNat s4)).drop (Int.toNat (0:Int))))
 chk (decide ((v5.length:Int)<=(2199023255552:Int))) <|
 let v6:List Yb:=((a4,(a5,(a6,(a7,(a8,a9)))))::([]:List Yb))
 let v7:List Yb:=(v5++v6)
 chk (decide ((v7.length:Int)<=(2199023255552:Int))) <|
 chk (!(decide (s4<a1.length))||(decide (0<=s4)&&decide (s4<a1.length))) <|
 let v8:Bool:=(if (decide (s4<a1.length)) then (decide ((a1.getD (Int.toNat s4) ([],([],(0,(0,(false,0)))))).1=a4)) else false)
 (if v8 then
 (some (i64 (s4+1)):Option (Int))
 else
 (some s4)).bind fun s9 =>
 chk (decide (0<=s9)&&((decide (s9<=(a1.length:Int)))&&(decide ((a1.length:Int)<=(a1.length:Int))))) <|
 let v10:List Yb:=(v7++((a1.take (Int.toNat (s9+((a1.length:Int)-s9)))).drop (Int.toNat s9)))
 chk (decide ((v10.length:Int)<=(2199023255552:Int))) <|
 some (a0,v10)
noncomputable def spec_l5Lock(a0:Int)(a1:List Yb)(a2:List Ya)(a3:List (Int))(a4:Int):Option Yq :=
 chk ((decide (0<=(i64 (a4-1))))&&(decide ((i64 (a4-1))<a2.length))) <|
 let v0:Int × Int × (List Yc) × (List Yd) × Int × Int × Bool:=(a2.getD (Int.toNat (i64 (a4-1))) (0,(0,([],([],(0,(0,false)))))))
 chk true <|
 chk true <|
 let j1:(List Yc) × (List Yd) × Int->Option _:=fun s2 =>
 (if (decide ((40:Int)<(i64 ((a1.length:Int)+s2.2.2)))) then
 (some (a2,a0,a1,(4:Int)))
 else
 ((loopM (σ:=Int × (List Yb) × (List Yd) × Int) (X:=Int × List Yb) (fun s3 =>
 (if (decide (s3.2.2.2<s2.2.1.length)) then
 ((chk (decide (0<=s3.2.2.2)&&decide (s3.2.2.2<s3.2.2.1.length)) <|
 let v4:B8 × B8:=(s3.2.2.1.getD (Int.toNat s3.2.2.2) ([],[]))
 (spec_l5Find' s3.1 s3.2.1 a2 a3 v4.1).bind fun r5 =>
 (spec_l5Put' s3.1 s3.2.1 a2 a3 r5.1 r5.2.1 r5.2.2.1 r5.2.2.2.1 true a4).bind fun r6 =>
 some (r6.1,r6.2,s3.2.2.1):Option (Int × (List Yb) × List Yd)).bind fun s7 =>
 some (.inl (s7.1,s7.2.1,s7.2.2,i64 (s3.2.2.2+1))))
 else
 some (.inr (s3.1,s3.2.1)))) (a0,a1,s2.2.1,(0:Int))).bind fun x8 =>
 some (x8.1,x8.2):Option (Int × List Yb)).bind fun s9 =>
 chk ((decide (0<=(i64 (a4-1))))&&(decide ((i64 (a4-1))<a2.length))) <|
 let v10:List Ya:=(a2.set (Int.toNat (i64 (a4-1))) ((a2.getD (Int.toNat (i64 (a4-1))) (0,(0,([],([],(0,(0,false))))))).1,((2:Int),(a2.getD (Int.toNat (i64 (a4-1))) (0,(0,([],([],(0,(0,false))))))).2.2)))
 some (v10,s9.1,s9.2,(0:Int)))
 (loopM (σ:=(List Yc) × (List Yd) × Int × Int) (X:=Yk ⊕ Yq) (fun s11 =>
 (if (decide (s11.2.2.2<v0.2.2.2.1.length)) then
 (let j12:(List Yc) × (List Yd) × Int->Option _:=fun s13 =>
 (some (.inl (s13.1,s13.2.1,s13.2.2,i64 (s11.2.2.2+1))))
 chk (decide (0<=s11.2.2.2)&&decide (s11.2.2.2<s11.2.1.length)) <|
 let v14:B8 × B8:=(s11.2.1.getD (Int.toNat s11.2.2.2) ([],[]))
 (spec_l5Find' a0 a1 a2 a3 v14.1).bind fun r15 =>
 if (!decide (r15.2.2.2.2.2.1=(0:Int))) then
 (some (.inr (.inr (a2,a0,a1,(2:Int)))))
 else
 (if (!r15.2.2.2.2.2.2) then
 (some (s11.1,s11.2.1,i64 (s11.2.2.1+1)):Option Yk)
 else
 (some (s11.1,s11.2.1,s11.2.2.1))).bind fun s16 =>
 j12 (s16.1,s16.2.1,s16.2.2))
 else
 some (.inr (.inl (s11.1,s11.2.1,s11.2.2.1))))) (v0.2.2.1,v0.2.2.2.1,(0:Int),(0:Int))).bind fun x17 =>
 sumE x17 (fun y18 =>
 j1 (y18.1,y18.2.1,y18.2.2)) (fun z19 =>
 some (z19.1,z19.2.1,z19.2.2.1,z19.2.2.2))
noncomputable def spec_l5Plain(a0:Int)(a1:Int)(a2:Bool):Option Ye :=
 some (a0,a1,false)
noncomputable def spec_l5Leave(a0:Int)(a1:List Yb)(a2:List Ya)(a3:List (Int))(a4:Int):Option ((List Yb) × (List Ya) × Int) :=
 ((loopM (σ:=(List Yb) × Int) (X:=List Yb) (fun s0 =>
 (if (decide (s0.2<a1.length)) then
 ((chk (decide (0<=s0.2)&&decide (s0.2<s0.1.length)) <|
 let v1:B8 × B8 × Int × Int × Bool × Int:=(s0.1.getD (Int.toNat s0.2) ([],([],(0,(0,(false,0))))))
 (if (decide (v1.2.2.2.2.2=a4)) then
 (chk (decide (0<=s0.2)&&decide (s0.2<s0.1.length)) <|
 let v2:List Yb:=(s0.1.set (Int.toNat s0.2) ((s0.1.getD (Int.toNat s0.2) ([],([],(0,(0,(false,0)))))).1,((s0.1.getD (Int.toNat s0.2) ([],([],(0,(0,(false,0)))))).2.1,((s0.1.getD (Int.toNat s0.2) ([],([],(0,(0,(false,0)))))).2.2.1,((s0.1.getD (Int.toNat s0.2) ([],([],(0,(0,(false,0)))))).2.2.2.1,((s0.1.getD (Int.toNat s0.2) ([],([],(0,(0,(false,0)))))).2.2.2.2.1,(0:Int)))))))
 chk (decide (0<=s0.2)&&decide (s0.2<v2.length)) <|
 let v3:List Yb:=(v2.set (Int.toNat s0.2) ((v2.getD (Int.toNat s0.2) ([],([],(0,(0,(false,0)))))).1,((v2.getD (Int.toNat s0.2) ([],([],(0,(0,(false,0)))))).2.1,((v2.getD (Int.toNat s0.2) ([],([],(0,(0,(false,0)))))).2.2.1,((v2.getD (Int.toNat s0.2) ([],([],(0,(0,(false,0)))))).2.2.2.1,(false,(v2.getD (Int.toNat s0.2) ([],([],(0,(0,(false,0)))))).2.2.2.2.2))))))
 some v3:Option (List Yb))
 else
 (some s0.1)).bind fun s4 =>
 some s4:Option (List Yb)).bind fun s5 =>
 some (.inl (s5,i64 (s0.2+1))))
 else
 some (.inr s0.1))) (a1,(0:Int))).bind fun x6 =>
 some x6:Option (List Yb)).bind fun s7 =>
 chk ((decide (0<=(i64 (a4-1))))&&(decide ((i64 (a4-1))<a2.length))) <|
 let v8:List Ya:=(a2.set (Int.toNat (i64 (a4-1))) ((a2.getD (Int.toNat (i64 (a4-1))) (0,(0,([],([],(0,(0,false))))))).1,((5:Int),(a2.getD (Int.toNat (i64 (a4-1))) (0,(0,([],([],(0,(0,false))))))).2.2)))
 some (s7,v8,a0)
noncomputable def spec_l1Next(a0:List Ye)(a1:Int):Option (Int × Int × Bool × Bool) :=
 ((loopM (σ:=Yl) (X:=Ys) (fun s0 =>
 (if (decide (s0.2.2<a0.length)) then
 ((chk (decide (0<=s0.2.2)&&decide (s0.2.2<a0.length)) <|
 let v1:Int × Int × Bool:=(a0.getD (Int.toNat s0.2.2) (0,(0,false)))
 (spec_l1Compare v1.1 v1.2.1 v1.2.2 s0.1 s0.2.1 false).bind fun r2 =>
 (if (decide (0<=r2)) then
 (some (v1.1,i64 (v1.2.1+1)):Option Ys)
 else
 (some (s0.1,s0.2.1))).bind fun s3 =>
 some (s3.1,s3.2):Option Ys).bind fun s4 =>
 some (.inl (s4.1,s4.2,i64 (s0.2.2+1))))
 else
 some (.inr (s0.1,s0.2.1)))) (a1,(0:Int),(0:Int))).bind fun x5 =>
 some (x5.1,x5.2):Option Ys).bind fun s6 =>
 let v7:Bool:=(if (decide (s6.1=a1)) then (decide (s6.2<=(16777215:Int))) else false)
 some (s6.1,s6.2,false,v7)
noncomputable def spec_l5Check(a0:Int)(a1:List Yb)(a2:List Ya)(a3:List (Int))(a4:Int):Option ((List Yb) × (List Ya) × Int × Int × Int × (List Int) × Int) :=
 chk ((decide (0<=(i64 (a4-1))))&&(decide ((i64 (a4-1))<a2.length))) <|
 let v0:Int × Int × (List Yc) × (List Yd) × Int × Int × Bool:=(a2.getD (Int.toNat (i64 (a4-1))) (0,(0,([],([],(0,(0,false)))))))
 chk true <|
 chk true <|
 let j1:(List Yc) × (List Yd) × List Ye->Option _:=fun s2 =>
 (((loopM (σ:=(List Ye) × (List Yd) × Int) (X:=List Ye) (fun s3 =>
 (if (decide (s3.2.2<s2.2.1.length)) then
 ((chk (decide (0<=s3.2.2)&&decide (s3.2.2<s3.2.1.length)) <|
 let v4:B8 × B8:=(s3.2.1.getD (Int.toNat s3.2.2) ([],[]))
 (spec_l5Find' a0 a1 a2 a3 v4.1).bind fun r5 =>
 let v6:List Ye:=((r5.2.2.1,(r5.2.2.2.1,r5.2.2.2.2.1))::([]:List Ye))
 let v7:List Ye:=(s3.1++v6)
 chk (decide ((v7.length:Int)<=(5864062014805:Int))) <|
 some (v7,s3.2.1):Option ((List Ye) × List Yd)).bind fun s8 =>
 some (.inl (s8.1,s8.2,i64 (s3.2.2+1))))
 else
 some (.inr s3.1))) (s2.2.2,s2.2.1,(0:Int))).bind fun x9 =>
 some x9:Option (List Ye)).bind fun s10 =>
 (spec_l1Next s10 a0).bind fun r11 =>
 if (!r11.2.2.2) then
 (some (a1,a2,a0,(a1.length:Int),(a2.length:Int),a3,(4:Int)))
 else
 chk ((decide (0<=(i64 (a4-1))))&&(decide ((i64 (a4-1))<a2.length))) <|
 let v12:List Ya:=(a2.set (Int.toNat (i64 (a4-1))) ((a2.getD (Int.toNat (i64 (a4-1))) (0,(0,([],([],(0,(0,false))))))).1,((a2.getD (Int.toNat (i64 (a4-1))) (0,(0,([],([],(0,(0,false))))))).2.1,((a2.getD (Int.toNat (i64 (a4-1))) (0,(0,([],([],(0,(0,false))))))).2.2.1,((a2.getD (Int.toNat (i64 (a4-1))) (0,(0,([],([],(0,(0,false))))))).2.2.2.1,(r11.1,(r11.2.1,r11.2.2.1)))))))
 chk ((decide (0<=(i64 (a4-1))))&&(decide ((i64 (a4-1))<v12.length))) <|
 let v13:List Ya:=(v12.set (Int.toNat (i64 (a4-1))) ((v12.getD (Int.toNat (i64 (a4-1))) (0,(0,([],([],(0,(0,false))))))).1,((3:Int),(v12.getD (Int.toNat (i64 (a4-1))) (0,(0,([],([],(0,(0,false))))))).2.2)))
 let v14:List (Int):=(a4::([]:List (Int)))
 let v15:List (Int):=(a3++v14)
 chk (decide ((v15.length:Int)<=(17592186044416:Int))) <|
 some (a1,v13,a0,(a1.length:Int),(v13.length:Int),v15,(0:Int)))
 (loopM (σ:=(List Yc) × (List Yd) × (List Ye) × Int) (X:=((List Yc) × (List Yd) × List Ye) ⊕ ((List Yb) × (List Ya) × Int × Int × Int × (List Int) × Int)) (fun s16 =>
 (if (decide (s16.2.2.2<v0.2.2.1.length)) then
 (let j17:(List Yc) × (List Yd) × List Ye->Option _:=fun s18 =>
 (some (.inl (s18.1,s18.2.1,s18.2.2,i64 (s16.2.2.2+1))))
 chk (decide (0<=s16.2.2.2)&&decide (s16.2.2.2<s16.1.length)) <|
 let v19:B8 × B8 × Int × Int × Bool:=(s16.1.getD (Int.toNat s16.2.2.2) ([],([],(0,(0,false)))))
 (spec_l5Find' a0 a1 a2 a3 v19.1).bind fun r20 =>
 (spec_l5Plain r20.2.2.1 r20.2.2.2.1 r20.2.2.2.2.1).bind fun r21 =>
 let v22:Bool:=(if (!decide (r20.2.2.2.2.2.1=(0:Int))) then (!decide (r20.2.2.2.2.2.1=a4)) else false)
 let v23:Bool:=(if (!((decide (r21.1=v19.2.2.1))&&((decide (r21.2.1=v19.2.2.2.1))&&(r21.2.2==v19.2.2.2.2)))) then true else v22)
 if v23 then
 ((spec_l5Leave a0 a1 a2 a3 a4).bind fun r24 =>
 some (.inr (.inr (r24.1,r24.2.1,r24.2.2,(a1.length:Int),(a2.length:Int),a3,(3:Int)))))
 else
 let v25:List Ye:=((v19.2.2.1,(v19.2.2.2.1,v19.2.2.2.2))::([]:List Ye))
 let v26:List Ye:=(s16.2.2.1++v25)
 chk (decide ((v26.length:Int)<=(5864062014805:Int))) <|
 j17 (s16.1,s16.2.1,v26))
 else
 some (.inr (.inl (s16.1,s16.2.1,s16.2.2.1))))) (v0.2.2.1,v0.2.2.2.1,([]:List Ye),(0:Int))).bind fun x27 =>
 sumE x27 (fun y28 =>
 j1 (y28.1,y28.2.1,y28.2.2)) (fun z29 =>
 some (z29.1,z29.2.1,z29.2.2.1,z29.2.2.2.1,z29.2.2.2.2.1,z29.2.2.2.2.2.1,z29.2.2.2.2.2.2))
noncomputable def spec_l5Do(a0:Int)(a1:List Yb)(a2:List Ya)(a3:List (Int))(a4:Int)(a5:Int)(a6:B8)(a7:B8):Option Yj :=
 if (decide (a4=(1:Int))) then
 (if (!decide (a5=(0:Int))) then
 (some (a0,a1,a2,a3,([]:B8),(1:Int)))
 else
 if (decide ((a2.length:Int)=(20:Int))) then
 (some (a0,a1,a2,a3,([]:B8),(4:Int)))
 else
 let v0:List Ya:=(((i64 ((a2.length:Int)+(1:Int))),((1:Int),(([]:List Yc),(([]:List Yd),((0:Int),((0:Int),false))))))::([]:List Ya))
 let v1:List Ya:=(a2++v0)
 chk (decide ((v1.length:Int)<=(1599289640401:Int))) <|
 (spec_l1Num'''''''' (v1.length:Int)).bind fun r2 =>
 some (a0,a1,v1,a3,r2,(0:Int)))
 else
 (spec_l5State a0 a1 a2 a3 a5).bind fun r3 =>
 let j4:Int->Option _:=fun s5 =>
 (let v6:Bool:=(if (decide (a4=(2:Int))) then true else (decide (a4=(3:Int))))
 (if ((!(!decide (r3=s5)))&&v6) then spec_l1Key a6 else some false).bind fun r7 =>
 let v8:Bool:=(if v6 then (!r7) else false)
 let v9:Bool:=(if (!decide (r3=s5)) then true else v8)
 (if ((!v9)&&(decide (a4=(3:Int)))) then spec_l1Value a7 else some false).bind fun r10 =>
 let v11:Bool:=(if (decide (a4=(3:Int))) then (!r10) else false)
 let v12:Bool:=(if v9 then true else v11)
 if v12 then
 (some (a0,a1,a2,a3,([]:B8),(1:Int)))
 else
 let j13:(List Ya) × Int × (List Yb) × Int × (List Int) × Int->Option _:=fun s14 =>
 (some (s14.2.1,s14.2.2.1,((s14.1.take (Int.toNat s14.2.2.2.1)).drop (Int.toNat (0:Int))),s14.2.2.2.2.1,([]:B8),s14.2.2.2.2.2))
 if (decide (a4=(2:Int))) then
 ((spec_l5Read a0 a1 a2 a3 a5 a6).bind fun r15 =>
 some (r15.2.1,a1,((r15.1.take (Int.toNat (a2.length:Int))).drop (Int.toNat (0:Int))),a3,r15.2.2.1,r15.2.2.2))
 else
 (if (decide (a4=(3:Int))) then
 (chk ((decide (0<=(i64 (a5-1))))&&(decide ((i64 (a5-1))<a2.length))) <|
 chk true <|
 (spec_l3Cells (a2.getD (Int.toNat (i64 (a5-1))) (0,(0,([],([],(0,(0,false))))))).2.2.2.1 a6 a7).bind fun r16 =>
 chk ((decide (0<=(i64 (a5-1))))&&(decide ((i64 (a5-1))<a2.length))) <|
 let v17:List Ya:=(a2.set (Int.toNat (i64 (a5-1))) ((a2.getD (Int.toNat (i64 (a5-1))) (0,(0,([],([],(0,(0,false))))))).1,((a2.getD (Int.toNat (i64 (a5-1))) (0,(0,([],([],(0,(0,false))))))).2.1,((a2.getD (Int.toNat (i64 (a5-1))) (0,(0,([],([],(0,(0,false))))))).2.2.1,(r16,(a2.getD (Int.toNat (i64 (a5-1))) (0,(0,([],([],(0,(0,false))))))).2.2.2.2)))))
 some (v17,a0,a1,(v17.length:Int),a3,(0:Int)):Option Yi)
 else
 ((if (decide (a4=(4:Int))) then
 ((spec_l5Lock a0 a1 a2 a3 a5).bind fun r18 =>
 some (r18.1,r18.2.1,r18.2.2.1,(a2.length:Int),a3,r18.2.2.2):Option Yi)
 else
 ((if (decide (a4=(5:Int))) then
 ((spec_l5Check a0 a1 a2 a3 a5).bind fun r19 =>
 some (r19.2.1,r19.2.2.1,((r19.1.take (Int.toNat r19.2.2.2.1)).drop (Int.toNat (0:Int))),r19.2.2.2.2.1,r19.2.2.2.2.2.1,r19.2.2.2.2.2.2):Option Yi)
 else
 ((if (decide (a4=(6:Int))) then
 (chk ((decide (0<=(i64 (a5-1))))&&(decide ((i64 (a5-1))<a2.length))) <|
 let v20:Int × Int × (List Yc) × (List Yd) × Int × Int × Bool:=(a2.getD (Int.toNat (i64 (a5-1))) (0,(0,([],([],(0,(0,false)))))))
 chk true <|
 chk true <|
 ((loopM (σ:=Int × (List Yb) × (List Yc) × (List Yd) × Int) (X:=Int × List Yb) (fun s21 =>
 (if (decide (s21.2.2.2.2<v20.2.2.2.1.length)) then
 ((chk (decide (0<=s21.2.2.2.2)&&decide (s21.2.2.2.2<s21.2.2.2.1.length)) <|
 let v22:B8 × B8:=(s21.2.2.2.1.getD (Int.toNat s21.2.2.2.2) ([],[]))
 (spec_l5Put' s21.1 s21.2.1 a2 a3 v22.1 v22.2 v20.2.2.2.2.1 v20.2.2.2.2.2.1 v20.2.2.2.2.2.2 (0:Int)).bind fun r23 =>
 some (r23.1,r23.2,s21.2.2.1,s21.2.2.2.1):Option (Int × (List Yb) × (List Yc) × List Yd)).bind fun s24 =>
 some (.inl (s24.1,s24.2.1,s24.2.2.1,s24.2.2.2,i64 (s21.2.2.2.2+1))))
 else
 some (.inr (s21.1,s21.2.1)))) (a0,a1,v20.2.2.1,v20.2.2.2.1,(0:Int))).bind fun x25 =>
 some (x25.1,x25.2):Option (Int × List Yb)).bind fun s26 =>
 chk ((decide (0<=(i64 (a5-1))))&&(decide ((i64 (a5-1))<a2.length))) <|
 let v27:List Ya:=(a2.set (Int.toNat (i64 (a5-1))) ((a2.getD (Int.toNat (i64 (a5-1))) (0,(0,([],([],(0,(0,false))))))).1,((4:Int),(a2.getD (Int.toNat (i64 (a5-1))) (0,(0,([],([],(0,(0,false))))))).2.2)))
 some (v27,s26.1,s26.2,(v27.length:Int)):Option Yq)
 else
 ((if (decide (a4=(7:Int))) then
 ((spec_l5Leave a0 a1 a2 a3 a5).bind fun r28 =>
 some (r28.1,r28.2.1,r28.2.2):Option ((List Yb) × (List Ya) × Int))
 else
 (some (a1,a2,a0))).bind fun s29 =>
 some (s29.2.1,s29.2.2,((s29.1.take (Int.toNat (a1.length:Int))).drop (Int.toNat (0:Int))),(a2.length:Int)))).bind fun s30 =>
 some (s30.1,s30.2.1,s30.2.2.1,s30.2.2.2,a3,(0:Int)))).bind fun s31 =>
 some (s31.1,s31.2.1,s31.2.2.1,s31.2.2.2.1,s31.2.2.2.2.1,s31.2.2.2.2.2))).bind fun s32 =>
 some (s32.1,s32.2.1,s32.2.2.1,s32.2.2.2.1,s32.2.2.2.2.1,s32.2.2.2.2.2))).bind fun s33 =>
 j13 (s33.1,s33.2.1,s33.2.2.1,s33.2.2.2.1,s33.2.2.2.2.1,s33.2.2.2.2.2))
 (if (decide (a4=(2:Int))) then
 (some (decide (a4=(2:Int))):Option (Bool))
 else
 ((if (decide (a4=(3:Int))) then
 (some (decide (a4=(3:Int))):Option (Bool))
 else
 (some (decide (a4=(4:Int))))).bind fun s34 =>
 some s34)).bind fun s35 =>
 let j36:Int->Option _:=fun s37 =>
 (j4 s37)
 if s35 then
 (j36 (1:Int))
 else
 let j38:Int->Option _:=fun s39 =>
 (j36 s39)
 if (decide (a4=(5:Int))) then
 (j38 (2:Int))
 else
 let j40:Int->Option _:=fun s41 =>
 (j38 s41)
 if (decide (a4=(6:Int))) then
 (j40 (3:Int))
 else
 if (decide (a4=(7:Int))) then
 ((if (decide (r3=(2:Int))) then
 (some r3:Option (Int))
 else
 (some (1:Int))).bind fun s42 =>
 j40 s42)
 else
 some (a0,a1,a2,a3,([]:B8),(1:Int))
noncomputable def spec_PlayStore(a0:Int)(a1:List Yf):Option Ym :=
 (spec_l1In a0 (1:Int) (1000:Int)).bind fun r0 =>
 let v1:Bool:=(if (!r0) then true else (decide ((120:Int)<a1.length)))
 if v1 then
 (some ((0:Int),([]:List Yb),([]:List Ya),([]:List (Int)),([]:List (Int)),false))
 else
 ((loopM (σ:=Yn) (X:=Yg) (fun s2 =>
 (if (decide (s2.2.2.2.2.2<a1.length)) then
 ((chk (decide (0<=s2.2.2.2.2.2)&&decide (s2.2.2.2.2.2<a1.length)) <|
 let v3:Int × Int × B8 × B8:=(a1.getD (Int.toNat s2.2.2.2.2.2) (0,(0,([],[]))))
 (spec_l5Own s2.1 s2.2.1 s2.2.2.1 s2.2.2.2.1).bind fun r4 =>
 (spec_l5Do r4.1 r4.2.1 r4.2.2.1 r4.2.2.2 v3.1 v3.2.1 v3.2.2.1 v3.2.2.2).bind fun r5 =>
 let v6:Bool:=(if (decide (r5.2.2.2.2.2=(0:Int))) then true else (decide (r5.2.2.2.2.2=(3:Int))))
 (if v6 then
 (some (r5.1,r5.2.1,r5.2.2.1,r5.2.2.2.1):Option Yo)
 else
 (some (s2.1,s2.2.1,s2.2.2.1,s2.2.2.2.1))).bind fun s7 =>
 let v8:List (Int):=(r5.2.2.2.2.2::([]:List (Int)))
 let v9:List (Int):=(s2.2.2.2.2.1++v8)
 chk (decide ((v9.length:Int)<=(17592186044416:Int))) <|
 some (s7.1,s7.2.1,s7.2.2.1,s7.2.2.2,v9):Option Yg).bind fun s10 =>
 some (.inl (s10.1,s10.2.1,s10.2.2.1,s10.2.2.2.1,s10.2.2.2.2,i64 (s2.2.2.2.2.2+1))))
 else
 some (.inr (s2.1,s2.2.1,s2.2.2.1,s2.2.2.2.1,s2.2.2.2.2.1)))) (a0,([]:List Yb),([]:List Ya),([]:List (Int)),([]:List (Int)),(0:Int))).bind fun x11 =>
 some (x11.1,x11.2.1,x11.2.2.1,x11.2.2.2.1,x11.2.2.2.2):Option Yg).bind fun s12 =>
 (spec_l5Own s12.1 s12.2.1 s12.2.2.1 s12.2.2.2.1).bind fun r13 =>
 some (r13.1,r13.2.1,r13.2.2.1,r13.2.2.2,s12.2.2.2.2,true)
noncomputable def impl_Running_writeAt'(a0:Int)(a1:Int)(a2:List Yc)(a3:List Yd)(a4:Int)(a5:Int)(a6:Bool)(a7:B8):Option Yr :=
 (slices_BinarySearchFunc__impl_Cell_impl_Cell_string a3 a7).bind fun r0 =>
 some (r0.1,r0.2)
noncomputable def impl_owns(a0:Int):Option (Bool) :=
 let v0:Bool:=(if (decide (a0=(2:Int))) then true else (decide (a0=(3:Int))))
 some v0
noncomputable def impl_isRunning(a0:Int)(a1:Int)(a2:List Yc)(a3:List Yd)(a4:Int)(a5:Int)(a6:Bool)(a7:Int):Option (Bool) :=
 let v0:Bool:=(if (decide (a1=(3:Int))) then true else (decide (a1=(4:Int))))
 (if (!(!decide (a0=a7))) then impl_in a1 (1:Int) (5:Int) else some false).bind fun r1 =>
 let v2:Bool:=(if (!decide (a0=a7)) then true else (!r1))
 let v3:Bool:=(if v2 then true else (decide ((40:Int)<a2.length)))
 (if (!v3) then impl_isTid a4 a5 a6 else some false).bind fun r4 =>
 let v5:Bool:=(if v3 then true else (!r4))
 let v6:Bool:=(if v5 then true else a6)
 let v7:Bool:=(if (!v0) then (!((decide (a4=(0:Int)))&&((decide (a5=(0:Int)))&&(a6==false)))) else false)
 let v8:Bool:=(if v6 then true else v7)
 if v8 then
 (some false)
 else
 let j9:Unit->Option _:=fun s10 =>
 (let j11:Unit->Option _:=fun s12 =>
 (some true)
 (loopM (σ:=Int) (X:=Unit ⊕ Bool) (fun s13 =>
 (if (decide (s13<a3.length)) then
 (let j14:Unit->Option _:=fun s15 =>
 (some (.inl (i64 (s13+1))))
 chk (decide (0<=s13)&&decide (s13<a3.length)) <|
 let v16:B8 × B8:=(a3.getD (Int.toNat s13) ([],[]))
 (impl_isKey v16.1).bind fun r17 =>
 (if (!(!r17)) then impl_isValue v16.2 else some false).bind fun r18 =>
 let v19:Bool:=(if (!r17) then true else (!r18))
 chk (!((!v19)&&(decide ((0:Int)<s13)))||((decide (0<=(i64 (s13-1))))&&(decide ((i64 (s13-1))<a3.length)))) <|
 let v20:Bool:=(if (decide ((0:Int)<s13)) then (!Op.bytesLess (a3.getD (Int.toNat (i64 (s13-1))) ([],[])).1 v16.1) else false)
 let v21:Bool:=(if v19 then true else v20)
 if v21 then
 (some (.inr (.inr false)))
 else
 j14 ())
 else
 some (.inr (.inl ())))) (0:Int)).bind fun x22 =>
 sumE x22 (fun y23 =>
 j11 ()) (fun z24 =>
 some z24))
 (loopM (σ:=(List (B8 × Bool)) × Int) (X:=Unit ⊕ Bool) (fun s25 =>
 (if (decide (s25.2<a2.length)) then
 (let j26:List (B8 × Bool)->Option _:=fun s27 =>
 (some (.inl (s27,i64 (s25.2+1))))
 chk (decide (0<=s25.2)&&decide (s25.2<a2.length)) <|
 let v28:B8 × B8 × Int × Int × Bool:=(a2.getD (Int.toNat s25.2) ([],([],(0,(0,false)))))
 (impl_isKey v28.1).bind fun r29 =>
 let v30:Bool:=(if (!r29) then true else (mget s25.1 v28.1 false))
 (if (!v30) then impl_isValue v28.2.1 else some false).bind fun r31 =>
 let v32:Bool:=(if v30 then true else (!r31))
 (if (!v32) then impl_isTid v28.2.2.1 v28.2.2.2.1 v28.2.2.2.2 else some false).bind fun r33 =>
 let v34:Bool:=(if v32 then true else (!r33))
 let v35:Bool:=(if v34 then true else v28.2.2.2.2)
 if v35 then
 (some (.inr (.inr false)))
 else
 let v36:List (B8 × Bool):=(mset s25.1 v28.1 true)
 j26 v36)
 else
 some (.inr (.inl ())))) (([]:List (B8 × Bool)),(0:Int))).bind fun x37 =>
 sumE x37 (fun y38 =>
 j9 ()) (fun z39 =>
 some z39)
noncomputable def impl_isStore(a0:Int)(a1:List Yb)(a2:List Ya)(a3:List (Int)):Option (Bool) :=
 (impl_in a0 (1:Int) (1000:Int)).bind fun r0 =>
 let v1:Bool:=(if (!r0) then true else (decide ((40:Int)<a1.length)))
 let v2:Bool:=(if v1 then true else (decide ((20:Int)<a2.length)))
 if v2 then
 (some false)
 else
 let j3:List Yr->Option _:=fun s4 =>
 (let j5:Unit->Option _:=fun s6 =>
 (let j7:Unit->Option _:=fun s8 =>
 (some true)
 (loopM (σ:=Int) (X:=Unit ⊕ Bool) (fun s9 =>
 (if (decide (s9<a2.length)) then
 (let j10:Unit->Option _:=fun s11 =>
 (some (.inl (i64 (s9+1))))
 chk (decide (0<=s9)&&decide (s9<a2.length)) <|
 let v12:Int × Int × (List Yc) × (List Yd) × Int × Int × Bool:=(a2.getD (Int.toNat s9) (0,(0,([],([],(0,(0,false)))))))
 chk true <|
 chk true <|
 (impl_isRunning v12.1 v12.2.1 v12.2.2.1 v12.2.2.2.1 v12.2.2.2.2.1 v12.2.2.2.2.2.1 v12.2.2.2.2.2.2 (i64 (s9+1))).bind fun r13 =>
 let v14:Bool:=(if (decide (v12.2.1=(3:Int))) then true else (decide (v12.2.1=(4:Int))))
 let v15:Bool:=(if (!r13) then true else ((mget s4 (i64 (s9+1)) false) != v14))
 if v15 then
 (some (.inr (.inr false)))
 else
 let j16:Unit->Option _:=fun s17 =>
 (j10 ())
 (loopM (σ:=Yk) (X:=Unit ⊕ Bool) (fun s18 =>
 (if (decide (s18.2.2<v12.2.2.2.1.length)) then
 (let j19:Unit->Option _:=fun s20 =>
 (some (.inl (s18.1,s18.2.1,i64 (s18.2.2+1))))
 chk (decide (0<=s18.2.2)&&decide (s18.2.2<s18.2.1.length)) <|
 let v21:B8 × B8:=(s18.2.1.getD (Int.toNat s18.2.2) ([],[]))
 (impl_Store_at a0 a1 a2 a3 v21.1).bind fun r22 =>
 (impl_owns v12.2.1).bind fun r23 =>
 chk (!(r23&&(!(!r22.2)))||(decide (0<=r22.1)&&decide (r22.1<a1.length))) <|
 let v24:Bool:=(if (!r22.2) then true else (!decide ((a1.getD (Int.toNat r22.1) ([],([],(0,(0,(false,0)))))).2.2.2.2.2=v12.1)))
 let v25:Bool:=(if r23 then v24 else false)
 if v25 then
 (some (.inr (.inr false)))
 else
 j19 ())
 else
 some (.inr (.inl ())))) (v12.2.2.1,v12.2.2.2.1,(0:Int))).bind fun x26 =>
 sumE x26 (fun y27 =>
 j16 ()) (fun z28 =>
 some (.inr (.inr z28))))
 else
 some (.inr (.inl ())))) (0:Int)).bind fun x29 =>
 sumE x29 (fun y30 =>
 j7 ()) (fun z31 =>
 some z31))
 (loopM (σ:=Int) (X:=Unit ⊕ Bool) (fun s32 =>
 (if (decide (s32<a1.length)) then
 (let j33:Unit->Option _:=fun s34 =>
 (some (.inl (i64 (s32+1))))
 chk (decide (0<=s32)&&decide (s32<a1.length)) <|
 let v35:B8 × B8 × Int × Int × Bool × Int:=(a1.getD (Int.toNat s32) ([],([],(0,(0,(false,0))))))
 (impl_isKey v35.1).bind fun r36 =>
 chk (!((!(!r36))&&(decide ((0:Int)<s32)))||((decide (0<=(i64 (s32-1))))&&(decide ((i64 (s32-1))<a1.length)))) <|
 let v37:Bool:=(if (decide ((0:Int)<s32)) then (!Op.bytesLess (a1.getD (Int.toNat (i64 (s32-1))) ([],([],(0,(0,(false,0)))))).1 v35.1) else false)
 let v38:Bool:=(if (!r36) then true else v37)
 (if (!v38) then impl_isValue v35.2.1 else some false).bind fun r39 =>
 let v40:Bool:=(if v38 then true else (!r39))
 (if (!v40) then impl_isTid v35.2.2.1 v35.2.2.2.1 v35.2.2.2.2.1 else some false).bind fun r41 =>
 let v42:Bool:=(if v40 then true else (!r41))
 let v43:Bool:=(if v42 then true else (decide (a0<v35.2.2.1)))
 let v44:Bool:=(if v43 then true else (v35.2.2.2.2.1 != (!decide (v35.2.2.2.2.2=(0:Int)))))
 (if (!v44) then impl_in v35.2.2.2.2.2 (0:Int) (a2.length:Int) else some false).bind fun r45 =>
 let v46:Bool:=(if v44 then true else (!r45))
 if v46 then
 (some (.inr (.inr false)))
 else
 if (decide (v35.2.2.2.2.2=(0:Int))) then
 (j33 ())
 else
 chk ((decide (0<=(i64 (v35.2.2.2.2.2-1))))&&(decide ((i64 (v35.2.2.2.2.2-1))<a2.length))) <|
 let v47:Int × Int × (List Yc) × (List Yd) × Int × Int × Bool:=(a2.getD (Int.toNat (i64 (v35.2.2.2.2.2-1))) (0,(0,([],([],(0,(0,false)))))))
 chk true <|
 chk true <|
 (impl_Running_writeAt' v47.1 v47.2.1 v47.2.2.1 v47.2.2.2.1 v47.2.2.2.2.1 v47.2.2.2.2.2.1 v47.2.2.2.2.2.2 v35.1).bind fun r48 =>
 (impl_owns v47.2.1).bind fun r49 =>
 let v50:Bool:=(if (!r49) then true else (!r48.2))
 if v50 then
 (some (.inr (.inr false)))
 else
 j33 ())
 else
 some (.inr (.inl ())))) (0:Int)).bind fun x51 =>
 sumE x51 (fun y52 =>
 j5 ()) (fun z53 =>
 some z53))
 (loopM (σ:=(List Yr) × Int) (X:=(List Yr) ⊕ Bool) (fun s54 =>
 (if (decide (s54.2<a3.length)) then
 (let j55:List Yr->Option _:=fun s56 =>
 (some (.inl (s56,i64 (s54.2+1))))
 chk (decide (0<=s54.2)&&decide (s54.2<a3.length)) <|
 (impl_in (a3.getD (Int.toNat s54.2) 0) (1:Int) (a2.length:Int)).bind fun r57 =>
 let v58:Bool:=(if (!r57) then true else (mget s54.1 (a3.getD (Int.toNat s54.2) 0) false))
 if v58 then
 (some (.inr (.inr false)))
 else
 let v59:List Yr:=(mset s54.1 (a3.getD (Int.toNat s54.2) 0) true)
 j55 v59)
 else
 some (.inr (.inl s54.1)))) (([]:List Yr),(0:Int))).bind fun x60 =>
 sumE x60 (fun y61 =>
 j3 y61) (fun z62 =>
 some z62)
noncomputable def spec_l5Writes(a0:Int)(a1:Int)(a2:List Yc)(a3:List Yd)(a4:Int)(a5:Int)(a6:Bool)(a7:B8):Option (Bool) :=
 let j0:Unit->Option _:=fun s1 =>
 (some false)
 (loopM (σ:=Int) (X:=Unit ⊕ Bool) (fun s2 =>
 (if (decide (s2<a3.length)) then
 (let j3:Unit->Option _:=fun s4 =>
 (some (.inl (i64 (s2+1))))
 chk (decide (0<=s2)&&decide (s2<a3.length)) <|
 let v5:B8 × B8:=(a3.getD (Int.toNat s2) ([],[]))
 if (decide (v5.1=a7)) then
 (some (.inr (.inr true)))
 else
 j3 ())
 else
 some (.inr (.inl ())))) (0:Int)).bind fun x6 =>
 sumE x6 (fun y7 =>
 j0 ()) (fun z8 =>
 some z8)
noncomputable def spec_l5Running(a0:Int)(a1:List Yb)(a2:List Ya)(a3:List (Int))(a4:Int):Option (Bool) :=
 chk (decide (0<=a4)&&decide (a4<a2.length)) <|
 let v0:Int × Int × (List Yc) × (List Yd) × Int × Int × Bool:=(a2.getD (Int.toNat a4) (0,(0,([],([],(0,(0,false)))))))
 chk true <|
 chk true <|
 (if (!(!decide (v0.1=(i64 (a4+1))))) then spec_l1In v0.2.1 (1:Int) (5:Int) else some false).bind fun r1 =>
 let v2:Bool:=(if (!decide (v0.1=(i64 (a4+1)))) then true else (!r1))
 let v3:Bool:=(if v2 then true else (decide ((40:Int)<v0.2.2.1.length)))
 if v3 then
 (some false)
 else
 let j4:(List Yc) × List Yd->Option _:=fun s5 =>
 (let v6:Bool:=(if (decide (v0.2.1=(2:Int))) then true else (decide (v0.2.1=(3:Int))))
 let j7:Unit->Option _:=fun s8 =>
 (let v9:Bool:=(if (decide (v0.2.1=(3:Int))) then true else (decide (v0.2.1=(4:Int))))
 if v9 then
 ((spec_l1Tid v0.2.2.2.2.1 v0.2.2.2.2.2.1 v0.2.2.2.2.2.2).bind fun r10 =>
 let v11:Bool:=(if r10 then (!v0.2.2.2.2.2.2) else false)
 some v11)
 else
 some ((decide (v0.2.2.2.2.1=(0:Int)))&&((decide (v0.2.2.2.2.2.1=(0:Int)))&&(v0.2.2.2.2.2.2==false))))
 (loopM (σ:=Int) (X:=Unit ⊕ Bool) (fun s12 =>
 (if (decide (s12<s5.2.length)) then
 (let j13:Unit->Option _:=fun s14 =>
 (some (.inl (i64 (s12+1))))
 chk (decide (0<=s12)&&decide (s12<s5.2.length)) <|
 let v15:B8 × B8:=(s5.2.getD (Int.toNat s12) ([],[]))
 (spec_l1Key v15.1).bind fun r16 =>
 (if (!(!r16)) then spec_l1Value v15.2 else some false).bind fun r17 =>
 let v18:Bool:=(if (!r16) then true else (!r17))
 chk (!((!v18)&&(decide ((0:Int)<s12)))||((decide (0<=(i64 (s12-1))))&&(decide ((i64 (s12-1))<s5.2.length)))) <|
 let v19:Bool:=(if (decide ((0:Int)<s12)) then (!Op.bytesLess (s5.2.getD (Int.toNat (i64 (s12-1))) ([],[])).1 v15.1) else false)
 let v20:Bool:=(if v18 then true else v19)
 if v20 then
 (some (.inr (.inr false)))
 else
 (spec_l5Find' a0 a1 a2 a3 v15.1).bind fun r21 =>
 let v22:Bool:=(if (!r21.2.2.2.2.2.2) then true else (!decide (r21.2.2.2.2.2.1=v0.1)))
 let v23:Bool:=(if v6 then v22 else false)
 if v23 then
 (some (.inr (.inr false)))
 else
 j13 ())
 else
 some (.inr (.inl ())))) (0:Int)).bind fun x24 =>
 sumE x24 (fun y25 =>
 j7 ()) (fun z26 =>
 some z26))
 (loopM (σ:=Yk) (X:=((List Yc) × List Yd) ⊕ Bool) (fun s27 =>
 (if (decide (s27.2.2<v0.2.2.1.length)) then
 (let j28:Unit->Option _:=fun s29 =>
 (some (.inl (s27.1,s27.2.1,i64 (s27.2.2+1))))
 chk (decide (0<=s27.2.2)&&decide (s27.2.2<s27.1.length)) <|
 let v30:B8 × B8 × Int × Int × Bool:=(s27.1.getD (Int.toNat s27.2.2) ([],([],(0,(0,false)))))
 (spec_l1Key v30.1).bind fun r31 =>
 (if (!(!r31)) then spec_l1Value v30.2.1 else some false).bind fun r32 =>
 let v33:Bool:=(if (!r31) then true else (!r32))
 (if (!v33) then spec_l1Tid v30.2.2.1 v30.2.2.2.1 v30.2.2.2.2 else some false).bind fun r34 =>
 let v35:Bool:=(if v33 then true else (!r34))
 let v36:Bool:=(if v35 then true else v30.2.2.2.2)
 if v36 then
 (some (.inr (.inr false)))
 else
 chk ((decide ((0:Int)<=0))&&(decide (0<=s27.2.2)&&(decide (s27.2.2<=(s27.1.length:Int))))) <|
 let j37:Unit->Option _:=fun s38 =>
 (j28 ())
 (loopM (σ:=Int) (X:=Unit ⊕ Bool) (fun s39 =>
 (if (decide (s39<s27.2.2)) then
 (let j40:Unit->Option _:=fun s41 =>
 (some (.inl (i64 (s39+1))))
 chk (decide (0<=s39)&&(decide (s39<s27.2.2))) <|
 chk (decide (0<=s39)&&decide (s39<s27.1.length)) <|
 let v42:B8 × B8 × Int × Int × Bool:=(s27.1.getD (Int.toNat s39) ([],([],(0,(0,false)))))
 if (decide (v42.1=v30.1)) then
 (some (.inr (.inr false)))
 else
 j40 ())
 else
 some (.inr (.inl ())))) (0:Int)).bind fun x43 =>
 sumE x43 (fun y44 =>
 j37 ()) (fun z45 =>
 some (.inr (.inr z45))))
 else
 some (.inr (.inl (s27.1,s27.2.1))))) (v0.2.2.1,v0.2.2.2.1,(0:Int))).bind fun x46 =>
 sumE x46 (fun y47 =>
 j4 (y47.1,y47.2)) (fun z48 =>
 some z48)
noncomputable def spec_GoodStore(a0:Int)(a1:List Yb)(a2:List Ya)(a3:List (Int)):Option (Bool) :=
 (spec_l1In a0 (1:Int) (1000:Int)).bind fun r0 =>
 let v1:Bool:=(if (!r0) then true else (decide ((40:Int)<a1.length)))
 let v2:Bool:=(if v1 then true else (decide ((20:Int)<a2.length)))
 if v2 then
 (some false)
 else
 let j3:Unit->Option _:=fun s4 =>
 (let j5:Int->Option _:=fun s6 =>
 (let j7:Unit->Option _:=fun s8 =>
 (some (decide ((a3.length:Int)=s6)))
 (loopM (σ:=Int) (X:=Unit ⊕ Bool) (fun s9 =>
 (if (decide (s9<a3.length)) then
 (let j10:Unit->Option _:=fun s11 =>
 (some (.inl (i64 (s9+1))))
 chk (decide (0<=s9)&&decide (s9<a3.length)) <|
 (spec_l5State a0 a1 a2 a3 (a3.getD (Int.toNat s9) 0)).bind fun r12 =>
 let v13:Bool:=(if (!decide (r12=(3:Int))) then (!decide (r12=(4:Int))) else false)
 chk (!(!v13)||((decide ((0:Int)<=0))&&(decide (0<=s9)&&(decide (s9<=(a3.length:Int)))))) <|
 (if (!v13) then spec_l1Has ((a3.take (Int.toNat s9)).drop (Int.toNat (0:Int))) (a3.getD (Int.toNat s9) 0) else some false).bind fun r14 =>
 let v15:Bool:=(if v13 then true else r14)
 if v15 then
 (some (.inr (.inr false)))
 else
 j10 ())
 else
 some (.inr (.inl ())))) (0:Int)).bind fun x16 =>
 sumE x16 (fun y17 =>
 j7 ()) (fun z18 =>
 some z18))
 (loopM (σ:=Ys) (X:=(Int) ⊕ Bool) (fun s19 =>
 (if (decide (s19.2<a2.length)) then
 (let j20:Int->Option _:=fun s21 =>
 (some (.inl (s21,i64 (s19.2+1))))
 chk (decide (0<=s19.2)&&decide (s19.2<a2.length)) <|
 let v22:Int × Int × (List Yc) × (List Yd) × Int × Int × Bool:=(a2.getD (Int.toNat s19.2) (0,(0,([],([],(0,(0,false)))))))
 chk true <|
 chk true <|
 (spec_l5Running a0 a1 a2 a3 s19.2).bind fun r23 =>
 if (!r23) then
 (some (.inr (.inr false)))
 else
 let v24:Bool:=(if (decide (v22.2.1=(3:Int))) then true else (decide (v22.2.1=(4:Int))))
 (if v24 then
 (some (i64 (s19.1+1)):Option (Int))
 else
 (some s19.1)).bind fun s25 =>
 j20 s25)
 else
 some (.inr (.inl s19.1)))) ((0:Int),(0:Int))).bind fun x26 =>
 sumE x26 (fun y27 =>
 j5 y27) (fun z28 =>
 some z28))
 (loopM (σ:=Int) (X:=Unit ⊕ Bool) (fun s29 =>
 (if (decide (s29<a1.length)) then
 (let j30:Unit->Option _:=fun s31 =>
 (some (.inl (i64 (s29+1))))
 chk (decide (0<=s29)&&decide (s29<a1.length)) <|
 let v32:B8 × B8 × Int × Int × Bool × Int:=(a1.getD (Int.toNat s29) ([],([],(0,(0,(false,0))))))
 (spec_l1Key v32.1).bind fun r33 =>
 (if (!(!r33)) then spec_l1Value v32.2.1 else some false).bind fun r34 =>
 let v35:Bool:=(if (!r33) then true else (!r34))
 (if (!v35) then spec_l1Tid v32.2.2.1 v32.2.2.2.1 v32.2.2.2.2.1 else some false).bind fun r36 =>
 let v37:Bool:=(if v35 then true else (!r36))
 let v38:Bool:=(if v37 then true else (decide (a0<v32.2.2.1)))
 let v39:Bool:=(if v38 then true else (v32.2.2.2.2.1 != (!decide (v32.2.2.2.2.2=(0:Int)))))
 chk (!((!v39)&&(decide ((0:Int)<s29)))||((decide (0<=(i64 (s29-1))))&&(decide ((i64 (s29-1))<a1.length)))) <|
 let v40:Bool:=(if (decide ((0:Int)<s29)) then (!Op.bytesLess (a1.getD (Int.toNat (i64 (s29-1))) ([],([],(0,(0,(false,0)))))).1 v32.1) else false)
 let v41:Bool:=(if v39 then true else v40)
 if v41 then
 (some (.inr (.inr false)))
 else
 if (decide (v32.2.2.2.2.2=(0:Int))) then
 (j30 ())
 else
 (spec_l5State a0 a1 a2 a3 v32.2.2.2.2.2).bind fun r42 =>
 let v43:Bool:=(if (!decide (r42=(2:Int))) then (!decide (r42=(3:Int))) else false)
 chk (!(!v43)||((decide (0<=(i64 (v32.2.2.2.2.2-1))))&&(decide ((i64 (v32.2.2.2.2.2-1))<a2.length)))) <|
 let v44:Int × Int × (List Yc) × (List Yd) × Int × Int × Bool:=(a2.getD (Int.toNat (i64 (v32.2.2.2.2.2-1))) (0,(0,([],([],(0,(0,false)))))))
 chk (!(!v43)||true) <|
 chk (!(!v43)||true) <|
 (if (!v43) then spec_l5Writes v44.1 v44.2.1 v44.2.2.1 v44.2.2.2.1 v44.2.2.2.2.1 v44.2.2.2.2.2.1 v44.2.2.2.2.2.2 v32.1 else some false).bind fun r45 =>
 let v46:Bool:=(if v43 then true else (!r45))
 if v46 then
 (some (.inr (.inr false)))
 else
 j30 ())
 else
 some (.inr (.inl ())))) (0:Int)).bind fun x47 =>
 sumE x47 (fun y48 =>
 j3 ()) (fun z49 =>
 some z49)
noncomputable def impl_GoodStore(a0:Int)(a1:List Yb)(a2:List Ya)(a3:List (Int)):Option (Bool) :=
 (impl_isStore a0 a1 a2 a3).bind fun r0 =>
 some r0
abbrev Lk:=Tx × Tx × Int × Int × Bool
abbrev Cl:=Tx × Tx
abbrev Tn:=Int × Int × List Lk × List Cl × Int × Int × Bool
abbrev L0:Lk:=([],([],(0,(0,false))))
abbrev C0:Cl:=([],[])
abbrev T0:Tn:=(0,(0,([],([],(0,(0,false))))))
def kC (c:Cl):Tx:=c.1
abbrev hasG {A:Type}(key:A->Tx)(d:A)(l:List A)(k:Tx):Prop:=lbS key l k<l.length/\key (l.getD (lbS key l k) d)=k
theorem zbS {A:Type}{key:A->Tx}{d:A}{l:List A}(h:SK key l){k:Tx}:hasG key d l k ↔ ∃x∈l,key x=k:=by
 constructor
 · rintro⟨h1,h2⟩
   exact⟨_,zaf h1 d,h2⟩
 · rintro⟨x,hx,hk⟩
   obtain⟨i,hi,rfl⟩:=List.mem_iff_getElem.1 hx
   have e:l.getD i d=l[i]:=by rw[List.getD_eq_getElem?_getD,List.getElem?_eq_getElem hi];rfl
   have hk2:key (l.getD i d)=k:=by rw[e];exact hk
   have:=ze9 h d hi hk2
   exact⟨by rw[<- this];exact hi,by rw[<- this];exact hk2⟩
theorem zk3 {A:Type}{key:A->Tx}{l:List A}(h:SK key l){x y:A}(hx:x∈l)(hy:y∈l)(e:key x=key y):x=y:=by
 obtain⟨i,hi,rfl⟩:=List.mem_iff_getElem.1 hx
 obtain⟨j,hj,rfl⟩:=List.mem_iff_getElem.1 hy
 have h1:=List.pairwise_iff_getElem.1 h
 rcases Nat.lt_trichotomy i j with c|c|c
 · have:=h1 i j hi hj c
   rw[e,za1]at this;cases this
 ·subst c;rfl
 · have:=h1 j i hj hi c
   rw[e,za1]at this;cases this
theorem zjy {A:Type}{key:A->Tx}{d:A}{l:List A}(h:SK key l){x:A}(hx:x∈l):hasG key d l (key x)/\l.getD (lbS key l (key x)) d=x:=by
 have h1:=(zbS (d:=d) h).2 ⟨x,hx,rfl⟩
 exact⟨h1,zk3 h (zaf h1.1 d) hx h1.2⟩
theorem BSr {l:List Rc}(h:SK kR l)(hl:l.length<=1000000)(x:Tx) :
 slices_BinarySearchFunc__impl_Record_impl_Record_string l x=some ((lbS kR l x:Int),decide (hasG kR R0 l x)):=by
 unfold slices_BinarySearchFunc__impl_Record_impl_Record_string
 have hle:=zdS (key:=kR) l x
 refine zac (zac (zdR h R0 (by omega) x (fun i j k hij hj hk=>?_) fun i=>?_) rfl) ?_
 · have h1:=zl0 (z:=(i:Int)+j) (by omega) (by omega)
   have hk1:=zae (x:=(k:Int)+1) (by omega) (by omega)
   simp only[zak (show (i:Int)<(j:Int) by omega),if_true,h1,<- hk,zak (show (0:Int)<=(k:Int) by omega),zak (show (k:Int)<(l.length:Int) by omega),Bool.and_self,zaa,Int.toNat_natCast,impl_Store_at_1,strings_Compare,bind_some,zjp,hk1]
   have hkk:kR (l.getD k R0)=(l.getD k ([],([],(0,(0,(false,0)))))).1:=rfl
   rw[hkk]
   cases Op.bytesLess (l.getD k ([],([],(0,(0,(false,0)))))).1 x<;>simp
 ·simp
 · obtain⟨k,hk⟩:∃k,lbS kR l x=k:=⟨_,rfl⟩
   unfold hasG
   rw[hk]at hle ⊢
   by_cases c:k<l.length
   · simp only[zak (show (k:Int)<(l.length:Int) by omega),zak (show (0:Int)<=(k:Int) by omega),Bool.and_self,Bool.or_true,zaa,Int.toNat_natCast,impl_Store_at_1,strings_Compare,bind_some,if_true,c,true_and,zia]
     rfl
   ·simp only[zbe (show ¬(k:Int)<(l.length:Int) by omega),Bool.not_false,Bool.true_or,zaa,Bool.false_eq_true,if_false,bind_some,c,false_and,decide_false]
theorem BSc {l:List Cl}(h:SK kC l)(hl:l.length<=1000000)(x:Tx) :
 slices_BinarySearchFunc__impl_Cell_impl_Cell_string l x=some ((lbS kC l x:Int),decide (hasG kC C0 l x)):=by
 unfold slices_BinarySearchFunc__impl_Cell_impl_Cell_string
 have hle:=zdS (key:=kC) l x
 refine zac (zac (zdR h C0 (by omega) x (fun i j k hij hj hk=>?_) fun i=>?_) rfl) ?_
 · have h1:=zl0 (z:=(i:Int)+j) (by omega) (by omega)
   have hk1:=zae (x:=(k:Int)+1) (by omega) (by omega)
   simp only[zak (show (i:Int)<(j:Int) by omega),if_true,h1,<- hk,zak (show (0:Int)<=(k:Int) by omega),zak (show (k:Int)<(l.length:Int) by omega),Bool.and_self,zaa,Int.toNat_natCast,impl_Running_writeAt_1,strings_Compare,bind_some,zjp,hk1]
   have hkk:kC (l.getD k C0)=(l.getD k ([],[])).1:=rfl
   rw[hkk]
   cases Op.bytesLess (l.getD k ([],[])).1 x<;>simp
 ·simp
 · obtain⟨k,hk⟩:∃k,lbS kC l x=k:=⟨_,rfl⟩
   unfold hasG
   rw[hk]at hle ⊢
   by_cases c:k<l.length
   · simp only[zak (show (k:Int)<(l.length:Int) by omega),zak (show (0:Int)<=(k:Int) by omega),Bool.and_self,Bool.or_true,zaa,Int.toNat_natCast,impl_Running_writeAt_1,strings_Compare,bind_some,if_true,c,true_and,zia]
     rfl
   ·simp only[zbe (show ¬(k:Int)<(l.length:Int) by omega),Bool.not_false,Bool.true_or,zaa,Bool.false_eq_true,if_false,bind_some,c,false_and,decide_false]
theorem zhv {R:List Rc}(h:SK kR R)(hl:R.length<=1000000)(e:Int)(X:List Tn)(O:List Int)(x:Tx):impl_Store_at e R X O x=some ((lbS kR R x:Int),decide (hasG kR R0 R x)):=by
 unfold impl_Store_at
 rw[BSr h hl];rfl
theorem zfp {X:List Tn}{t:Nat}(ht:t<X.length)(h:SK kC (X.getD t T0).2.2.2.1)(hl:(X.getD t T0).2.2.2.1.length<=1000000)(x:Tx):impl_Running_writeAt X (t:Int) x=some ((lbS kC (X.getD t T0).2.2.2.1 x:Int),decide (hasG kC C0 (X.getD t T0).2.2.2.1 x)):=by
 unfold impl_Running_writeAt
 have t1:(t:Int)<X.length:=by omega
 have t0:(0:Int)<=(t:Int):=by omega
 simp only[t1,t0,decide_true,Bool.and_self,zaa,Int.toNat_natCast]
 exact zac (BSc h hl x) rfl
theorem zh5 {W:List Cl}(h:SK kC W)(hl:W.length<=1000000)(a b:Int)(c:List Lk)(d f:Int)(g:Bool)(x:Tx):impl_Running_writeAt' a b c W d f g x=some ((lbS kC W x:Int),decide (hasG kC C0 W x)):=by
 unfold impl_Running_writeAt'
 rw[BSc h hl];rfl
def recOr (R:List Rc)(k:Tx):Rc:=if hasG kR R0 R k then R.getD (lbS kR R k) R0 else (k,[],0,0,false,0)
theorem zcj {R:List Rc}(h:SK kR R){r:Rc}(hr:r∈R):recOr R (kR r)=r:=by
 unfold recOr
 rw[if_pos (zjy h hr).1];exact (zjy h hr).2
theorem recOr_cases{R:List Rc}(h:SK kR R)(k:Tx):(recOr R k∈R/\kR (recOr R k)=k/\hasG kR R0 R k)\/((∀r∈R,kR r≠k)/\recOr R k=(k,[],0,0,false,0)/\¬hasG kR R0 R k):=by
 unfold recOr
 by_cases c:hasG kR R0 R k
 ·rw[if_pos c];exact .inl ⟨zaf c.1 R0,c.2,c⟩
 · rw[if_neg c]
   exact .inr ⟨fun r hr e=>c ((zbS h).2 ⟨r,hr,e⟩),rfl,c⟩
theorem zcW (R:List Rc)(k:Tx):(recOr R k).1=k:=by
 unfold recOr
 by_cases c:hasG kR R0 R k
 ·rw[if_pos c];exact c.2
 ·rw[if_neg c]
theorem zd0 {R:List Rc}(h:SK kR R)(hl:R.length<=1000000)(e:Int)(X:List Tn)(O:List Int)(x:Tx) :
 spec_l5Find' e R X O x=some ((recOr R x).1,(recOr R x).2.1,(recOr R x).2.2.1,(recOr R x).2.2.2.1,(recOr R x).2.2.2.2.1,(recOr R x).2.2.2.2.2,decide (hasG kR R0 R x)):=by
 unfold spec_l5Find'
 dsimp only
 refine zac (zda (fun k:Nat=>(k:Int)) R.length (fun k=>decide ((R.getD k R0).1=x)) (fun k=>(Sum.inr ((R.getD k R0).1,(R.getD k R0).2.1,(R.getD k R0).2.2.1,(R.getD k R0).2.2.2.1,(R.getD k R0).2.2.2.2.1,(R.getD k R0).2.2.2.2.2,true):Unit ⊕ (Tx × Tx × Int × Int × Bool × Int × Bool))) (.inl ()) rfl (fun k hk=>?_) (by simp)) ?_
 · have hk1:(k:Int)<R.length:=by omega
   have hk0:(0:Int)<=(k:Int):=by omega
   have hi1:i64 ((k:Int)+1)=((k+1:Nat):Int):=by rw[zae (by omega) (by omega)];rfl
   simp only[hk1,hk0,decide_true,if_true,Bool.and_self,zaa,Int.toNat_natCast,hi1]
   split<;>rfl
 · unfold recOr
   by_cases c:hasG kR R0 R x
   · rw[if_pos c,decide_eq_true c]
     have:(List.range R.length).find? (fun k=>decide ((R.getD k R0).1=x))=some (lbS kR R x):=by
      rw[List.find?_range_eq_some]
      refine⟨decide_eq_true c.2,List.mem_range.2 c.1,fun i hi=>?_⟩
      simp only[Bool.not_eq_true',decide_eq_false_iff_not]
      intro hk
      have c1:=c.1
      have:=ze9 h R0 (i:=i) (x:=x) (by omega) hk
      omega
     rw[this]
     rfl
   · rw[if_neg c,decide_eq_false c]
     have:(List.range R.length).find? (fun k=>decide ((R.getD k R0).1=x))=none:=by
      rw[List.find?_eq_none]
      intro i hi
      have hi:=List.mem_range.1 hi
      simp only[decide_eq_true_eq]
      intro hk
      have:=ze9 h R0 (i:=i) (x:=x) hi hk
      subst this
      exact c ⟨hi,hk⟩
     rw[this]
     rfl
def putG {A:Type}(key:A->Tx)(e:A)(l:List A):List A:=insG key (fun _ _=>true) e l
theorem zeh {A:Type}{key:A->Tx}(e d:A)(l:List A):putG key e l=if hasG key d l (key e) then l.set (lbS key l (key e)) e else l.take (lbS key l (key e))++e::l.drop (lbS key l (key e)):=by
 unfold putG
 rw[zib e d];rfl
theorem zcE {A:Type}{key:A->Tx}{e:A}{l:List A}(h:SK key l):SK key (putG key e l):=zjh h
theorem zbI {A:Type}{key:A->Tx}{e x:A}{l:List A}(h:SK key l):x∈putG key e l↔x=e\/(x∈l/\key x≠key e):=by
 constructor
 · intro hx
   rcases insG_max h x hx with⟨h1,h2⟩|⟨h1,_⟩
   ·exact .inr ⟨h1,fun hk=>by have:=h2 hk;cases this⟩
   ·exact .inl h1
 · rintro (rfl|⟨h1,h2⟩)
   · obtain⟨y,hy,hk⟩:=zhW (key:=key) (tl:=fun _ _=>true) (e:=x) h
     rcases insG_max h y hy with⟨_,h2⟩|⟨h1,_⟩
     ·have:=h2 hk;cases this
     ·rw[h1]at hy;exact hy
   ·exact ziw h1 h2
theorem zei {A:Type}{key:A->Tx}(e:A)(l:List A):(putG key e l).length<=l.length+1:=zij e l
theorem zhU {A:Type}{key:A->Tx}(d:A)(l:List A)(x:Tx){f:Int->Option (Int ⊕ Int)}(hl:l.length<=1000000000)
 (hs:∀k:Nat,k<l.length->f (k:Int)=some (if Op.bytesLess (key (l.getD k d)) x=true then .inl ((k:Int)+1) else .inr (k:Int))) (he:f (l.length:Int)=some (.inr (l.length:Int))):loopM f 0=some (lbS key l x:Int):=by
 have hle:=zdS (key:=key) l x
 refine zah (fun k:Nat=>(k:Int)) (lbS key l x) (lbS key l x:Int) rfl (fun k hk=>?_) ?_
 ·rw[hs k (by omega),if_pos (zj1 (key:=key) d hk)];rfl
 · by_cases c:lbS key l x<l.length
   ·rw[hs _ c,if_neg (by rw[zhM (key:=key) d c];simp)]
   · have:lbS key l x=l.length:=by omega
     rw[this];exact he
theorem zhT {A:Type}{key:A->Tx}(d e:A)(l:List A):(l.take (lbS key l (key e)) ++ [e])++l.drop (if hasG key d l (key e) then lbS key l (key e)+1 else lbS key l (key e))=putG key e l:=by
 rw[zeh e d]
 by_cases c:hasG key d l (key e)
 ·rw[if_pos c,if_pos c,List.set_eq_take_append_cons_drop,if_pos c.1];simp
 ·rw[if_neg c,if_neg c];simp
theorem zkA {R:List Rc}(hl:R.length<=1000000)(e:Int)(X:List Tn)(O:List Int)(r:Rc) :
 spec_l5Put' e R X O r.1 r.2.1 r.2.2.1 r.2.2.2.1 r.2.2.2.2.1 r.2.2.2.2.2=some (e,putG kR r R):=by
 obtain⟨x,v,a,b,c,o⟩:=r
 unfold spec_l5Put'
 dsimp only
 have hle:=zdS (key:=kR) R x
 refine zac (a:=(lbS kR R x:Int)) (zac (zhU R0 R x (by omega) (fun k hk=>?_) ?_) rfl) ?_
 · have hk1:(k:Int)<R.length:=by omega
   have hk0:(0:Int)<=(k:Int):=by omega
   have hi1:i64 ((k:Int)+1)=(k:Int)+1:=zae (by omega) (by omega)
   simp only[hk1,hk0,decide_true,if_true,Bool.and_self,Bool.or_true,zaa,Int.toNat_natCast,hi1,bind_some]
   show (if Op.bytesLess (kR (R.getD k R0)) x=true then _ else _)=_
   cases Op.bytesLess (kR (R.getD k R0)) x<;>rfl
 ·simp
 · have hp:=zhT (key:=kR) R0 (x,v,a,b,c,o) R
   have hkx:kR (x,v,a,b,c,o)=x:=rfl
   rw[hkx]at hp
   obtain⟨K,hK⟩:∃K,lbS kR R x=K:=⟨_,rfl⟩
   have hg:(decide (K<R.length)&&decide ((R.getD K R0).1=x))=decide (hasG kR R0 R x):=by
    unfold hasG
    rw[hK]
    rw[Bool.eq_iff_iff];simp only[Bool.and_eq_true,decide_eq_true_eq];rfl
   have hKl:decide ((K:Int)<(R.length:Int))=decide (K<R.length):=by rw[decide_eq_decide];omega
   have hgd:(if hasG kR R0 R x then lbS kR R x+1 else lbS kR R x)=(if hasG kR R0 R x then K+1 else K):=by simp only[hK]
   rw[hgd]at hp
   have ht:R.take (lbS kR R x)=R.take K:=by rw[hK]
   rw[ht]at hp
   rw[hK]at hle
   have hs9:∀b:Bool,b=decide (hasG kR R0 R x)->(if b=true then (some (i64 ((K:Int)+1)):Option Int) else some (K:Int))=some ((if hasG kR R0 R x then K+1 else K:Nat):Int):=by
    rintro b rfl
    rw[zae (by omega) (by omega)]
    by_cases q:hasG kR R0 R x
    ·rw[decide_eq_true q,if_pos rfl,if_pos q];rfl
    ·rw[decide_eq_false q,if_neg (by simp),if_neg q]
   obtain⟨J,hJ⟩:∃J,(if hasG kR R0 R x then K+1 else K)=J:=⟨_,rfl⟩
   have hJl:J<=R.length:=by
    rw[<- hJ];split
    · rename_i q
      have:=q.1
      rw[hK]at this;omega
    ·exact hle
   rw[hJ]at hp hs9
   simp only[hK,zak (show (0:Int)<=(K:Int) by omega),zak (show (K:Int)<=(R.length:Int) by omega),Int.le_refl,decide_true,Bool.and_self,zaa,List.nil_append,Int.toNat_natCast,Int.toNat_zero,List.drop_zero]
   rw[zaz (by simp;omega),zaz (by simp;omega)]
   rw[zfK (by cases decide ((K:Int)<(R.length:Int))<;>rfl)]
   refine zac (hs9 _ (by rw[<- hg,hKl,zgq])) ?_
   have e1:((J:Int)+((R.length:Int)-(J:Int))).toNat=R.length:=by omega
   simp only[zak (show (0:Int)<=(J:Int) by omega),zak (show (J:Int)<=(R.length:Int) by omega),Int.le_refl,decide_true,Bool.and_self,zaa,e1,List.take_length,Int.toNat_natCast,hp]
   have:=zei (key:=kR) (x,v,a,b,c,o) R
   rw[zaz (by omega)]
theorem zku {W:List Cl}(hl:W.length<=1000000)(x v:Tx):spec_l3Cells W x v=some (putG kC (x,v) W):=by
 unfold spec_l3Cells
 dsimp only
 have hle:=zdS (key:=kC) W x
 refine zac (a:=(lbS kC W x:Int)) (zac (zhU C0 W x (by omega) (fun k hk=>?_) ?_) rfl) ?_
 · have hk1:(k:Int)<W.length:=by omega
   have hk0:(0:Int)<=(k:Int):=by omega
   have hi1:i64 ((k:Int)+1)=(k:Int)+1:=zae (by omega) (by omega)
   simp only[hk1,hk0,decide_true,if_true,Bool.and_self,Bool.or_true,zaa,Int.toNat_natCast,hi1,bind_some]
   show (if Op.bytesLess (kC (W.getD k C0)) x=true then _ else _)=_
   cases Op.bytesLess (kC (W.getD k C0)) x<;>rfl
 ·simp
 · have hp:=zhT (key:=kC) C0 (x,v) W
   have hkx:kC (x,v)=x:=rfl
   rw[hkx]at hp
   obtain⟨K,hK⟩:∃K,lbS kC W x=K:=⟨_,rfl⟩
   have hg:(decide (K<W.length)&&decide ((W.getD K C0).1=x))=decide (hasG kC C0 W x):=by
    unfold hasG
    rw[hK]
    rw[Bool.eq_iff_iff];simp only[Bool.and_eq_true,decide_eq_true_eq];rfl
   have hKl:decide ((K:Int)<(W.length:Int))=decide (K<W.length):=by rw[decide_eq_decide];omega
   have hgd:(if hasG kC C0 W x then lbS kC W x+1 else lbS kC W x)=(if hasG kC C0 W x then K+1 else K):=by simp only[hK]
   rw[hgd]at hp
   have ht:W.take (lbS kC W x)=W.take K:=by rw[hK]
   rw[ht]at hp
   rw[hK]at hle
   have hs9:∀b:Bool,b=decide (hasG kC C0 W x)->(if b=true then (some (i64 ((K:Int)+1)):Option Int) else some (K:Int))=some ((if hasG kC C0 W x then K+1 else K:Nat):Int):=by
    rintro b rfl
    rw[zae (by omega) (by omega)]
    by_cases q:hasG kC C0 W x
    ·rw[decide_eq_true q,if_pos rfl,if_pos q];rfl
    ·rw[decide_eq_false q,if_neg (by simp),if_neg q]
   obtain⟨J,hJ⟩:∃J,(if hasG kC C0 W x then K+1 else K)=J:=⟨_,rfl⟩
   have hJl:J<=W.length:=by
    rw[<- hJ];split
    · rename_i q
      have:=q.1
      rw[hK]at this;omega
    ·exact hle
   rw[hJ]at hp hs9
   simp only[hK,zak (show (0:Int)<=(K:Int) by omega),zak (show (K:Int)<=(W.length:Int) by omega),Int.le_refl,decide_true,Bool.and_self,zaa,List.nil_append,Int.toNat_natCast,Int.toNat_zero,List.drop_zero]
   rw[zaz (by simp;omega),zaz (by simp;omega)]
   rw[zfK (by cases decide ((K:Int)<(W.length:Int))<;>rfl)]
   refine zac (hs9 _ (by rw[<- hg,hKl,zgq])) ?_
   have e1:((J:Int)+((W.length:Int)-(J:Int))).toNat=W.length:=by omega
   simp only[zak (show (0:Int)<=(J:Int) by omega),zak (show (J:Int)<=(W.length:Int) by omega),Int.le_refl,decide_true,Bool.and_self,zaa,e1,List.take_length,Int.toNat_natCast,hp]
   have:=zei (key:=kC) (x,v) W
   rw[zaz (by omega)]
theorem zkM {R:List Rc}(hl:R.length<=1000000){q:Nat}(hq:q<=R.length)(r:Rc):slices_Insert__impl_Record_impl_Record R (q:Int) (r :: [])=some (R.take q++r::R.drop q):=by
 unfold slices_Insert__impl_Record_impl_Record
 have q0:(0:Int)<=(q:Int):=by omega
 have q1:(q:Int)<=R.length:=by omega
 have q3:(((r::([]:List Rc)).length:Nat):Int)=1:=rfl
 simp only[q0,q1,q3,decide_true,zaa,Int.toNat_natCast,List.take_length]
 rw[zaz (by omega)]
 simp
theorem zkF {W:List Cl}(hl:W.length<=1000000){q:Nat}(hq:q<=W.length)(c:Cl):slices_Insert__impl_Cell_impl_Cell W (q:Int) (c :: [])=some (W.take q++c::W.drop q):=by
 unfold slices_Insert__impl_Cell_impl_Cell
 have q0:(0:Int)<=(q:Int):=by omega
 have q1:(q:Int)<=W.length:=by omega
 have q3:(((c::([]:List Cl)).length:Nat):Int)=1:=rfl
 simp only[q0,q1,q3,decide_true,zaa,Int.toNat_natCast,List.take_length]
 rw[zaz (by omega)]
 simp
abbrev ownR (r:Rc):Int:=r.2.2.2.2.2
abbrev lockR (r:Rc):Bool:=r.2.2.2.2.1
abbrev setOwn(r:Rc)(o:Int)(c:Bool):Rc:=(r.1,r.2.1,r.2.2.1,r.2.2.2.1,c,o)
abbrev setState(T:Tn)(s:Int):Tn:=(T.1,s,T.2.2)
abbrev setLooks(T:Tn)(l:List Lk):Tn:=(T.1,T.2.1,l,T.2.2.2)
abbrev setWrites(T:Tn)(w:List Cl):Tn:=(T.1,T.2.1,T.2.2.1,w,T.2.2.2.2)
structure WS (R:List Rc)(X:List Tn):Prop where
 rl:R.length<=1000
 xl:X.length<=20
 rk:SK kR R
 rg:∀r∈R,(lockR r=true↔ownR r≠0)
 wk:∀T∈X,SK kC T.2.2.2.1
 wl:∀T∈X,T.2.2.2.1.length<=1000
 ll:∀T∈X,T.2.2.1.length<=1000
theorem WS.w {R:List Rc}{X:List Tn}(h:WS R X){t:Nat}(ht:t<X.length):SK kC (X.getD t T0).2.2.2.1/\(X.getD t T0).2.2.2.1.length<=1000/\(X.getD t T0).2.2.1.length<=1000 :=
 ⟨h.wk _ (zaf ht T0),h.wl _ (zaf ht T0),h.ll _ (zaf ht T0)⟩
theorem ziA {R:List Rc}{X:List Tn}(h:WS R X)(k:Tx):lockR (recOr R k) = !decide (ownR (recOr R k)=0):=by
 rcases recOr_cases h.rk k with⟨h1,_,_⟩|⟨_,h2,_⟩
 · have:=h.rg _ h1
   cases hl:lockR (recOr R k) with
   |true=>rw[decide_eq_false (this.1 hl)];rfl
   | false =>
     have:ownR (recOr R k)=0:=Classical.byContradiction fun hn=>by rw[this.2 hn]at hl;cases hl
     rw[decide_eq_true this];rfl
 ·rw[h2];rfl
def firstL (L:List Lk)(k:Tx):Option Nat:=(List.range L.length).find? fun i=>decide ((L.getD i L0).1=k)
def rdP (R:List Rc)(X:List Tn)(t:Nat)(k:Tx):List Tn × Tx × Int :=
 if hasG kC C0 (X.getD t T0).2.2.2.1 k then (X,((X.getD t T0).2.2.2.1.getD (lbS kC (X.getD t T0).2.2.2.1 k) C0).2,0)
 else match firstL (X.getD t T0).2.2.1 k with
  |some i=>(X,((X.getD t T0).2.2.1.getD i L0).2.1,0)
  |none=>if ownR (recOr R k)=0 then (if (X.getD t T0).2.2.1.length=40 then (X,[],4) else
   (X.set t (setLooks (X.getD t T0) ((X.getD t T0).2.2.1 ++ [(k,(recOr R k).2.1,(recOr R k).2.2.1,(recOr R k).2.2.2.1,(recOr R k).2.2.2.2.1)])),(recOr R k).2.1,0)) else (X,[],2)
theorem zgI {e : Int} {R : List Rc} {X : List Tn} {O : List Int} (h : WS R X) {t : Nat} (ht : t < X.length) (k : Tx) : impl_Store_read e R X O (t : Int) k = some (rdP R X t k) := by
 obtain⟨w1,w2,w3⟩:=h.w ht
 have t1:(t:Int)<X.length:=by omega
 have t0:(0:Int)<=(t:Int):=by omega
 unfold impl_Store_read rdP
 refine zac (zfp ht w1 (by omega) k) ?_
 have hlk:=ziA h k
 obtain⟨T,hT⟩:∃T,X.getD t T0=T:=⟨_,rfl⟩
 have hT':X.getD t (0,(0,([],([],(0,(0,false))))))=T:=hT
 rw[hT]at w1 w2 w3
 simp only[hT',hT,t1,t0,decide_true,Bool.and_self,zaa,Int.toNat_natCast]
 by_cases c:hasG kC C0 T.2.2.2.1 k
 · have c1:=c.1
   rw[if_pos c,decide_eq_true c,if_pos rfl]
   simp only[zak (show (0:Int)<=(lbS kC T.2.2.2.1 k:Int) by omega),zak (show (lbS kC T.2.2.2.1 k:Int)<(T.2.2.2.1.length:Int) by omega),Bool.and_self,zaa,Int.toNat_natCast]
 · rw[if_neg c,decide_eq_false c,if_neg (by simp)]
   refine zac (zda (fun i:Nat=>(T.2.2.1,(i:Int))) T.2.2.1.length (fun i=>decide ((T.2.2.1.getD i L0).1=k)) (fun i=>Sum.inr (X,(T.2.2.1.getD i L0).2.1,(0:Int))) (.inl ()) rfl (fun i hi=>?_) (by simp)) ?_
   · have i1:(i:Int)<T.2.2.1.length:=by omega
     have i0:(0:Int)<=(i:Int):=by omega
     have i2:i64 ((i:Int)+1)=((i+1:Nat):Int):=by rw[zae (by omega) (by omega)];rfl
     simp only[i1,i0,decide_true,Bool.and_self,zaa,if_true,Int.toNat_natCast,i2]
     split<;>rfl
   · unfold firstL
     cases (List.range T.2.2.1.length).find? (fun i=>decide ((T.2.2.1.getD i L0).1=k)) with
     |some i=>rfl
     | none =>
       simp only[zaw]
       refine zac (zhv h.rk (by have:=h.rl;omega) e X O k) ?_
       have hl40:decide ((T.2.2.1.length:Int)=40)=decide (T.2.2.1.length=40):=by rw[decide_eq_decide];omega
       have key:∀(v:Tx) (a b:Int) (c:Bool),(if (decide ((T.2.2.1.length:Int)=40))=true then some (X,[],4)
        else chk (decide (((T.2.2.1 ++ [(k,v,a,b,c)]).length:Int)<=2513169434916)) (some (X.set t (setLooks T (T.2.2.1 ++ [(k,v,a,b,c)])),v,0)):Option (List Tn × Tx × Int)) =
        some (if T.2.2.1.length=40 then (X,[],4) else (X.set t (setLooks T (T.2.2.1 ++ [(k,v,a,b,c)])),v,0)):=by
        intro v a b c
        rw[hl40]
        by_cases q:T.2.2.1.length=40
        ·rw[decide_eq_true q,if_pos rfl,if_pos q]
        ·rw[decide_eq_false q,if_neg (by simp),if_neg q,zaz (by simp only[List.length_append,List.length_cons,List.length_nil];omega)]
       rcases recOr_cases h.rk k with⟨m1,m2,m3⟩|⟨m1,m2,m3⟩
       · have hR:R.getD (lbS kR R k) R0=recOr R k:=by unfold recOr;rw[if_pos m3]
         have hR':R.getD (lbS kR R k) ([],([],(0,(0,(false,0)))))=recOr R k:=hR
         have m31:=m3.1
         rw[decide_eq_true m3]
         simp only[if_true,zak (show (0:Int)<=(lbS kR R k:Int) by omega),zak (show (lbS kR R k:Int)<(R.length:Int) by omega),Bool.and_self,zaa,Int.toNat_natCast,hR']
         have hlk':(recOr R k).2.2.2.2.1 = !decide (ownR (recOr R k)=0):=hlk
         by_cases q:ownR (recOr R k)=0
         · rw[if_pos q]
           rw[decide_eq_true q]at hlk'
           rw[if_neg (by rw[hlk'];simp)]
           exact key _ _ _ _
         · rw[if_neg q]
           rw[decide_eq_false q]at hlk'
           rw[if_pos (by rw[hlk'];rfl)]
       · rw[decide_eq_false m3,m2]
         simp only[Bool.false_eq_true,if_false,if_true]
         exact key [] 0 0 false
theorem zgs {e:Int}{R:List Rc}{X:List Tn}{O:List Int}(h:WS R X){t:Nat}(ht:t<X.length)(k:Tx):spec_l5Read e R X O ((t:Int)+1) k=some ((rdP R X t k).1,e,(rdP R X t k).2.1,(rdP R X t k).2.2):=by
 obtain⟨w1,w2,w3⟩:=h.w ht
 have t1:(t:Int)<X.length:=by omega
 have t0:(0:Int)<=(t:Int):=by omega
 have hx:=h.xl
 have ti:i64 ((t:Int)+1-1)=(t:Int):=by rw[zae (by omega) (by omega)];omega
 unfold spec_l5Read rdP
 obtain⟨T,hT⟩:∃T,X.getD t T0=T:=⟨_,rfl⟩
 have hT':X.getD t (0,(0,([],([],(0,(0,false))))))=T:=hT
 rw[hT]at w1 w2 w3
 simp only[ti,hT',hT,t1,t0,decide_true,Bool.and_self,zaa,Int.toNat_natCast]
 refine zac (zda (fun i:Nat=>(T.2.2.1,T.2.2.2.1,(i:Int))) T.2.2.2.1.length (fun i=>decide ((T.2.2.2.1.getD i C0).1=k)) (fun i=>Sum.inr (X,e,(T.2.2.2.1.getD i C0).2,(0:Int))) (.inl (T.2.2.1,T.2.2.2.1)) rfl (fun i hi=>?_) (by simp)) ?_
 · have i1:(i:Int)<T.2.2.2.1.length:=by omega
   have i0:(0:Int)<=(i:Int):=by omega
   have i2:i64 ((i:Int)+1)=((i+1:Nat):Int):=by rw[zae (by omega) (by omega)];rfl
   simp only[i1,i0,decide_true,Bool.and_self,zaa,if_true,Int.toNat_natCast,i2]
   split<;>rfl
 · by_cases c:hasG kC C0 T.2.2.2.1 k
   · rw[if_pos c]
     have:(List.range T.2.2.2.1.length).find? (fun i=>decide ((T.2.2.2.1.getD i C0).1=k))=some (lbS kC T.2.2.2.1 k):=by
      rw[List.find?_range_eq_some]
      refine⟨decide_eq_true c.2,List.mem_range.2 c.1,fun i hi=>?_⟩
      simp only[Bool.not_eq_true',decide_eq_false_iff_not]
      intro hk
      have c1:=c.1
      have:=ze9 w1 C0 (i:=i) (x:=k) (by omega) hk
      omega
     rw[this];rfl
   · rw[if_neg c]
     have:(List.range T.2.2.2.1.length).find? (fun i=>decide ((T.2.2.2.1.getD i C0).1=k))=none:=by
      rw[List.find?_eq_none]
      intro i hi
      have hi:=List.mem_range.1 hi
      simp only[decide_eq_true_eq]
      intro hk
      have:=ze9 w1 C0 (i:=i) (x:=k) hi hk
      subst this
      exact c ⟨hi,hk⟩
     rw[this]
     simp only[zaw]
     refine zac (zda (fun i:Nat=>(T.2.2.1,T.2.2.2.1,(i:Int))) T.2.2.1.length (fun i=>decide ((T.2.2.1.getD i L0).1=k)) (fun i=>Sum.inr (X,e,(T.2.2.1.getD i L0).2.1,(0:Int))) (.inl (T.2.2.1,T.2.2.2.1)) rfl (fun i hi=>?_) (by simp)) ?_
     · have i1:(i:Int)<T.2.2.1.length:=by omega
       have i0:(0:Int)<=(i:Int):=by omega
       have i2:i64 ((i:Int)+1)=((i+1:Nat):Int):=by rw[zae (by omega) (by omega)];rfl
       simp only[i1,i0,decide_true,Bool.and_self,zaa,if_true,Int.toNat_natCast,i2]
       split<;>rfl
     · unfold firstL
       cases (List.range T.2.2.1.length).find? (fun i=>decide ((T.2.2.1.getD i L0).1=k)) with
       |some i=>rfl
       | none =>
         simp only[zaw]
         refine zac (zd0 h.rk (by have:=h.rl;omega) e X O k) ?_
         have hl40:decide ((T.2.2.1.length:Int)=40)=decide (T.2.2.1.length=40):=by rw[decide_eq_decide];omega
         by_cases q:ownR (recOr R k)=0
         · have q':(recOr R k).2.2.2.2.2=0:=q
           simp only[q',q,decide_true,Bool.not_true,Bool.false_eq_true,if_false,if_true,hl40]
           by_cases p:T.2.2.1.length=40
           ·simp only[p,decide_true,if_true]
           · simp only[p,decide_false,Bool.false_eq_true,if_false]
             rw[zaz (by simp only[List.length_append,List.length_cons,List.length_nil];omega)]
         · have q':¬(recOr R k).2.2.2.2.2=0:=q
           simp only[q',q,decide_false,Bool.not_false,if_true,if_false]
def lvR (id:Int)(r:Rc):Rc:=if ownR r=id then setOwn r 0 false else r
def lvP (R:List Rc)(id:Int):List Rc:=R.map (lvR id)
theorem zdH {A:Type}(f:A->A)(d:A)(l:List A){k:Nat}(hk:k<l.length):((l.take k).map f++l.drop k).getD k d=l.getD k d/\((l.take k).map f++l.drop k).set k (f (l.getD k d))=(l.take (k+1)).map f++l.drop (k+1):=by
 have hlen:((l.take k).map f).length=k:=by rw[List.length_map,List.length_take];omega
 have hd:l.drop k=l.getD k d::l.drop (k+1):=by
  rw[List.drop_eq_getElem_cons hk,List.getD_eq_getElem?_getD,List.getElem?_eq_getElem hk];rfl
 constructor
 ·rw[List.getD_eq_getElem?_getD,List.getElem?_append_right (by omega),hlen,Nat.sub_self,hd];rfl
 · rw[List.set_append_right _ _ (by omega),hlen,Nat.sub_self,hd,List.set_cons_zero,zaq l d hk,List.map_append]
   simp
theorem zj7 (R:List Rc)(id:Int){k:Nat}(hk:k<R.length):((R.take k).map (lvR id)++R.drop k).length=R.length:=by
 rw[List.length_append,List.length_map,List.length_take,List.length_drop];omega
theorem zdb {e:Int}{R:List Rc}{X:List Tn}{O:List Int}(hl:R.length<=1000000){t:Nat}(ht:t<X.length):impl_Store_letGo e R X O (t:Int)=some (lvP R (X.getD t T0).1,X.set t (setState (X.getD t T0) 5)):=by
 have t1:(t:Int)<X.length:=by omega
 have t0:(0:Int)<=(t:Int):=by omega
 unfold impl_Store_letGo
 obtain⟨T,hT⟩:∃T,X.getD t T0=T:=⟨_,rfl⟩
 have hT':X.getD t (0,(0,([],([],(0,(0,false))))))=T:=hT
 simp only[hT',hT,t1,t0,decide_true,Bool.and_self,zaa,Int.toNat_natCast]
 refine zac (a:=lvP R T.1) (zac (zah (fun k:Nat=>((R.take k).map (lvR T.1)++R.drop k,(k:Int))) R.length (lvP R T.1) (by simp) (fun k hk=>?_) (by simp[lvP])) rfl) rfl
 have k1:(k:Int)<R.length:=by omega
 have k0:(0:Int)<=(k:Int):=by omega
 have ki:i64 ((k:Int)+1)=((k+1:Nat):Int):=by rw[zae (by omega) (by omega)];rfl
 obtain⟨g1,g2⟩:=zdH (lvR T.1) R0 R hk
 have g3:=zj7 R T.1 hk
 obtain⟨S,hS⟩:∃S,(R.take k).map (lvR T.1)++R.drop k=S:=⟨_,rfl⟩
 rw[hS]at g1 g2 g3
 have g1':S.getD k ([],([],(0,(0,(false,0)))))=R.getD k R0:=g1
 rw[<- g2,hS]
 simp only[k1,k0,g3,decide_true,Bool.and_self,zaa,if_true,Int.toNat_natCast,ki,List.length_set,g1']
 have hset:∀v:Rc,(S.set k v).getD k ([],([],(0,(0,(false,0)))))=v:=fun v=>zbx (by omega) v _
 by_cases c:ownR (R.getD k R0)=T.1
 · have c':(R.getD k R0).2.2.2.2.2=T.1:=c
   have hv:lvR T.1 (R.getD k R0)=setOwn (R.getD k R0) 0 false:=if_pos c
   rw[hv]
   simp only[c',decide_true,if_true,bind_some,hset,List.set_set]
 · have c':¬(R.getD k R0).2.2.2.2.2=T.1:=c
   have hv:lvR T.1 (R.getD k R0)=R.getD k R0:=if_neg c
   rw[hv]
   have hs:S.set k (R.getD k R0)=S:=by
    rw[<- g1,List.getD_eq_getElem?_getD,List.getElem?_eq_getElem (show k<S.length by omega)]
    exact List.set_getElem_self _
   rw[hs]
   simp only[c',decide_false,Bool.false_eq_true,if_false,bind_some]
theorem zde {e:Int}{R:List Rc}{X:List Tn}{O:List Int}(hl:R.length<=1000000){t:Nat}(ht:t<X.length)(hx:X.length<=1000):spec_l5Leave e R X O ((t:Int)+1)=some (lvP R ((t:Int)+1),X.set t (setState (X.getD t T0) 5),e):=by
 have t1:(t:Int)<X.length:=by omega
 have t0:(0:Int)<=(t:Int):=by omega
 have ti:i64 ((t:Int)+1-1)=(t:Int):=by rw[zae (by omega) (by omega)];omega
 unfold spec_l5Leave
 obtain⟨T,hT⟩:∃T,X.getD t T0=T:=⟨_,rfl⟩
 have hT':X.getD t (0,(0,([],([],(0,(0,false))))))=T:=hT
 obtain⟨id,hid⟩:∃id,(t:Int)+1=id:=⟨_,rfl⟩
 rw[hid]at ti ⊢
 simp only[ti,hT',hT,t1,t0,decide_true,Bool.and_self,zaa,Int.toNat_natCast]
 refine zac (a:=lvP R id) (zac (zah (fun k:Nat=>((R.take k).map (lvR id)++R.drop k,(k:Int))) R.length (lvP R id) (by simp) (fun k hk=>?_) (by simp[lvP])) rfl) rfl
 have k1:(k:Int)<R.length:=by omega
 have k0:(0:Int)<=(k:Int):=by omega
 have ki:i64 ((k:Int)+1)=((k+1:Nat):Int):=by rw[zae (by omega) (by omega)];rfl
 obtain⟨g1,g2⟩:=zdH (lvR id) R0 R hk
 have g3:=zj7 R id hk
 obtain⟨S,hS⟩:∃S,(R.take k).map (lvR id)++R.drop k=S:=⟨_,rfl⟩
 rw[hS]at g1 g2 g3
 have g1':S.getD k ([],([],(0,(0,(false,0)))))=R.getD k R0:=g1
 rw[<- g2,hS]
 simp only[k1,k0,g3,decide_true,Bool.and_self,zaa,if_true,Int.toNat_natCast,ki,List.length_set,g1']
 have hset:∀v:Rc,(S.set k v).getD k ([],([],(0,(0,(false,0)))))=v:=fun v=>zbx (by omega) v _
 by_cases c:ownR (R.getD k R0)=id
 · have c':(R.getD k R0).2.2.2.2.2=id:=c
   have hv:lvR id (R.getD k R0)=setOwn (R.getD k R0) 0 false:=if_pos c
   rw[hv]
   simp only[c',decide_true,if_true,bind_some,hset,List.set_set]
 · have c':¬(R.getD k R0).2.2.2.2.2=id:=c
   have hv:lvR id (R.getD k R0)=R.getD k R0:=if_neg c
   rw[hv]
   have hs:S.set k (R.getD k R0)=S:=by
    rw[<- g1,List.getD_eq_getElem?_getD,List.getElem?_eq_getElem (show k<S.length by omega)]
    exact List.set_getElem_self _
   rw[hs]
   simp only[c',decide_false,Bool.false_eq_true,if_false,bind_some]
def lkStep (id:Int)(R:List Rc)(w:Cl):List Rc:=putG kR (setOwn (recOr R w.1) id true) R
def lkR (id:Int)(R:List Rc)(W:List Cl):List Rc:=W.foldl (lkStep id) R
def lkP (R:List Rc)(X:List Tn)(t:Nat)(id:Int):List Tn × List Rc × Int :=
 if (List.range (X.getD t T0).2.2.2.1.length).any (fun i=>!decide (ownR (recOr R ((X.getD t T0).2.2.2.1.getD i C0).1)=0)) then (X,R,2)
 else (X.set t (setState (X.getD t T0) 2),lkR id R (X.getD t T0).2.2.2.1,0)
theorem ze0 {id:Int}{R:List Rc}(h:SK kR R)(w:Cl):SK kR (lkStep id R w):=zcE h
theorem zef (id:Int)(R:List Rc)(W:List Cl){k:Nat}(hk:k<W.length):lkR id R (W.take (k+1))=lkStep id (lkR id R (W.take k)) (W.getD k C0):=by
 rw[zaq W C0 hk];unfold lkR;rw[List.foldl_append];rfl
theorem zjG {id:Int}{R:List Rc}(h:SK kR R):∀W:List Cl,SK kR (lkR id R W)
 | W => by
   have:∀k,k<=W.length->SK kR (lkR id R (W.take k)):=by
    intro k
    induction k with
    |zero=>intro _;simpa[lkR]using h
    |succ k ih=>intro hk;rw[zef id R W (by omega)];exact ze0 (ih (by omega)) _
   have:=this W.length (Nat.le_refl _)
   rwa[List.take_length]at this
theorem zhB {id:Int}{R:List Rc}(W:List Cl):∀k,k<=W.length->(lkR id R (W.take k)).length<=R.length+k
 |0,_=>by simp[lkR]
 | k + 1, hk => by
   rw[zef id R W (by omega)]
   have:=zhB (id:=id) (R:=R) W k (by omega)
   have:=zei (key:=kR) (setOwn (recOr (lkR id R (W.take k)) (W.getD k C0).1) id true) (lkR id R (W.take k))
   unfold lkStep;omega
def lack (R:List Rc)(W:List Cl):Nat->Int
 |0=>0
 |k+1=>if hasG kR R0 R (W.getD k C0).1 then lack R W k else lack R W k+1
theorem zeu (R:List Rc)(W:List Cl):∀k,0<=lack R W k/\lack R W k<=k
 |0=>⟨Int.le_refl _,Int.le_refl _⟩
 | k + 1 => by
   have h:=zeu R W k
   have e:lack R W (k+1)=if hasG kR R0 R (W.getD k C0).1 then lack R W k else lack R W k+1:=rfl
   rw[e];split<;>omega
theorem zgH {e : Int} {R : List Rc} {X : List Tn} {O : List Int} (h : WS R X) {t : Nat} (ht : t < X.length) (hfew : R.length + (X.getD t T0).2.2.2.1.length <= 40) :
 impl_Store_lock e R X O (t:Int)=some ((lkP R X t (X.getD t T0).1).1,e,(lkP R X t (X.getD t T0).1).2.1,(lkP R X t (X.getD t T0).1).2.2):=by
 obtain⟨w1,w2,w3⟩:=h.w ht
 have t1:(t:Int)<X.length:=by omega
 have t0:(0:Int)<=(t:Int):=by omega
 unfold impl_Store_lock lkP
 obtain⟨T,hT⟩:∃T,X.getD t T0=T:=⟨_,rfl⟩
 have hT':X.getD t (0,(0,([],([],(0,(0,false))))))=T:=hT
 rw[hT]at w1 w2 w3 hfew
 simp only[hT',hT,t1,t0,decide_true,Bool.and_self,zaa,Int.toNat_natCast]
 refine zac (zau (fun k:Nat=>(lack R T.2.2.2.1 k,T.2.2.2.1,(k:Int))) T.2.2.2.1.length (fun k=>!decide (ownR (recOr R (T.2.2.2.1.getD k C0).1)=0)) (.inr (X,e,R,2)) (.inl (lack R T.2.2.2.1 T.2.2.2.1.length)) rfl (fun k hk=>?_) (by simp)) ?_
 · have k1:(k:Int)<T.2.2.2.1.length:=by omega
   have k0:(0:Int)<=(k:Int):=by omega
   have ki:i64 ((k:Int)+1)=((k+1:Nat):Int):=by rw[zae (by omega) (by omega)];rfl
   have hk':T.2.2.2.1.getD k ([],[])=T.2.2.2.1.getD k C0:=rfl
   have hat:=zhv h.rk (by have:=h.rl;omega) e X O (T.2.2.2.1.getD k C0).1
   have hla:=zeu R T.2.2.2.1 k
   have el:lack R T.2.2.2.1 (k+1)=if hasG kR R0 R (T.2.2.2.1.getD k C0).1 then lack R T.2.2.2.1 k else lack R T.2.2.2.1 k+1:=rfl
   have il:i64 (lack R T.2.2.2.1 k+1)=lack R T.2.2.2.1 k+1:=zae (by omega) (by omega)
   simp only[k1,k0,decide_true,Bool.and_self,zaa,if_true,Int.toNat_natCast,ki,hk',hat,bind_some,el]
   rcases recOr_cases h.rk (T.2.2.2.1.getD k C0).1 with⟨m1,m2,m3⟩|⟨m1,m2,m3⟩
   · have hR:R.getD (lbS kR R (T.2.2.2.1.getD k C0).1) ([],([],(0,(0,(false,0)))))=recOr R (T.2.2.2.1.getD k C0).1:=by unfold recOr;rw[if_pos m3]
     have m31:=m3.1
     rw[decide_eq_true m3,if_pos m3]
     simp only[Bool.not_true,Bool.false_eq_true,if_false,zak (show (0:Int)<=(lbS kR R (T.2.2.2.1.getD k C0).1:Int) by omega),zak (show (lbS kR R (T.2.2.2.1.getD k C0).1:Int)<(R.length:Int) by omega),Bool.and_self,zaa,hR]
     by_cases q:ownR (recOr R (T.2.2.2.1.getD k C0).1)=0
     · have q':(recOr R (T.2.2.2.1.getD k C0).1).2.2.2.2.2=0:=q
       simp only[q',q,decide_true,Bool.not_true,Bool.false_eq_true,if_false]
     · have q':¬(recOr R (T.2.2.2.1.getD k C0).1).2.2.2.2.2=0:=q
       simp only[q',q,decide_false,Bool.not_false,if_true]
   · have q:ownR (recOr R (T.2.2.2.1.getD k C0).1)=0:=by rw[m2]
     rw[decide_eq_false m3,if_neg m3,q]
     simp only[Bool.not_false,if_true,il,decide_true,Bool.not_true,Bool.false_eq_true,if_false]
 · cases hb:(List.range T.2.2.2.1.length).any (fun k=>!decide (ownR (recOr R (T.2.2.2.1.getD k C0).1)=0)) with
   |true=>simp only[if_true,zec]
   | false =>
     have hla:=zeu R T.2.2.2.1 T.2.2.2.1.length
     have il:i64 ((R.length:Int)+lack R T.2.2.2.1 T.2.2.2.1.length)=(R.length:Int)+lack R T.2.2.2.1 T.2.2.2.1.length:=zae (by omega) (by omega)
     simp only[Bool.false_eq_true,if_false,zaw,il,zbe (show ¬(40:Int)<(R.length:Int)+lack R T.2.2.2.1 T.2.2.2.1.length by omega)]
     refine zac (a:=lkR T.1 R T.2.2.2.1) (zac (zah (fun k:Nat=>(lkR T.1 R (T.2.2.2.1.take k),T.2.2.2.1,(k:Int))) T.2.2.2.1.length (lkR T.1 R T.2.2.2.1) (by simp[lkR]) (fun k hk=>?_) (by simp)) rfl) rfl
     have k1:(k:Int)<T.2.2.2.1.length:=by omega
     have k0:(0:Int)<=(k:Int):=by omega
     have ki:i64 ((k:Int)+1)=((k+1:Nat):Int):=by rw[zae (by omega) (by omega)];rfl
     have hk':T.2.2.2.1.getD k ([],[])=T.2.2.2.1.getD k C0:=rfl
     have hskk:SK kR (lkR T.1 R (T.2.2.2.1.take k)):=zjG h.rk _
     have hlen:=zhB (id:=T.1) (R:=R) T.2.2.2.1 k (by omega)
     rw[zef T.1 R T.2.2.2.1 hk]
     obtain⟨S,hS⟩:∃S,lkR T.1 R (T.2.2.2.1.take k)=S:=⟨_,rfl⟩
     obtain⟨w,hw⟩:∃w,T.2.2.2.1.getD k C0=w:=⟨_,rfl⟩
     rw[hS]at hskk hlen
     have hat:=zhv hskk (by omega) e X O w.1
     have hle:=zdS (key:=kR) S w.1
     have hpos:=zeh (key:=kR) (setOwn (recOr S w.1) T.1 true) R0 S
     have hkk:kR (setOwn (recOr S w.1) T.1 true)=w.1:=zcW S w.1
     have hst:lkStep T.1 S w=putG kR (setOwn (recOr S w.1) T.1 true) S:=rfl
     rw[hS,hw,hst,hpos,hkk]
     simp only[k1,k0,decide_true,Bool.and_self,zaa,if_true,Int.toNat_natCast,ki,hk',hw,hat,bind_some]
     rcases recOr_cases hskk w.1 with⟨m1,m2,m3⟩|⟨m1,m2,m3⟩
     · have hR:S.getD (lbS kR S w.1) ([],([],(0,(0,(false,0)))))=recOr S w.1:=by unfold recOr;rw[if_pos m3]
       have m31:=m3.1
       have hset:∀v:Rc,(S.set (lbS kR S w.1) v).getD (lbS kR S w.1) ([],([],(0,(0,(false,0)))))=v:=fun v=>zbx m31 v _
       rw[decide_eq_true m3,if_pos m3]
       simp only[Bool.not_true,Bool.false_eq_true,if_false,bind_some,List.length_set,zak (show (0:Int)<=(lbS kR S w.1:Int) by omega),zak (show (lbS kR S w.1:Int)<(S.length:Int) by omega),Bool.and_self,zaa,hR,hset,List.set_set]
     · have hins:=zkM (R:=S) (by omega) (q:=lbS kR S w.1) hle (w.1,([],(0,(0,(false,0)))))
       have hlt:lbS kR S w.1<(S.take (lbS kR S w.1)++(w.1,([],(0,(0,(false,0)))))::S.drop (lbS kR S w.1)).length:=by
        rw[List.length_append,List.length_take,List.length_cons,List.length_drop];omega
       have htl:(S.take (lbS kR S w.1)).length=lbS kR S w.1:=by rw[List.length_take];omega
       have hset:∀v u:Rc,((S.take (lbS kR S w.1)++v::S.drop (lbS kR S w.1)).set (lbS kR S w.1) u)=S.take (lbS kR S w.1)++u::S.drop (lbS kR S w.1):=fun v u=>by
        rw[List.set_append_right _ _ (by omega),htl,Nat.sub_self,List.set_cons_zero]
       have hget:∀v:Rc,(S.take (lbS kR S w.1)++v::S.drop (lbS kR S w.1)).getD (lbS kR S w.1) ([],([],(0,(0,(false,0)))))=v:=fun v=>by
        rw[List.getD_eq_getElem?_getD,List.getElem?_append_right (by omega),htl,Nat.sub_self];rfl
       have hl2:∀v:Rc,(lbS kR S w.1:Int)<((S.take (lbS kR S w.1)++v::S.drop (lbS kR S w.1)).length:Int):=fun v=>by
        rw[List.length_append,List.length_take,List.length_cons,List.length_drop];omega
       rw[decide_eq_false m3,if_neg m3]
       simp only[Bool.not_false,if_true,hins,bind_some,hl2,zak (show (0:Int)<=(lbS kR S w.1:Int) by omega),decide_true,Bool.and_self,zaa,hget,hset,m2]
end Sh
