/- Sh: words that the typed functions use: loops, checks, whole numbers of some width. -/
import Derived.Orders
set_option linter.unusedVariables false
set_option linter.unusedSimpArgs false
namespace Sh
open Go

def i64 (n:Int):Int:=IntKind.wrap .i64 n
def i32 (n:Int):Int:=IntKind.wrap .i32 n
def i16 (n:Int):Int:=IntKind.wrap .i16 n
def i8 (n:Int):Int:=IntKind.wrap .i8 n
def u64 (n:Int):Int:=IntKind.wrap .u64 n
def u32 (n:Int):Int:=IntKind.wrap .u32 n
def u16 (n:Int):Int:=IntKind.wrap .u16 n
def u8 (n:Int):Int:=IntKind.wrap .u8 n
def ands (k:IntKind)(x y:Int):Int:=k.wrap (BitVec.ofInt k.bits x &&& BitVec.ofInt k.bits y).toNat
def ors (k:IntKind)(x y:Int):Int:=k.wrap (BitVec.ofInt k.bits x ||| BitVec.ofInt k.bits y).toNat
def xors (k:IntKind)(x y:Int):Int:=k.wrap (BitVec.ofInt k.bits x ^^^ BitVec.ofInt k.bits y).toNat
def andNots (k:IntKind)(x y:Int):Int:=k.wrap (BitVec.ofInt k.bits x &&& ~~~ BitVec.ofInt k.bits y).toNat
def shls (k:IntKind)(x y:Int):Int:=k.wrap (x*2^(min y.toNat k.bits))
def shrs (k:IntKind)(x y:Int):Int:=x.fdiv (2^(min y.toNat k.bits))

/-- Go on where it holds. -/
def chk {R:Type}(c:Bool)(k:Option R):Option R:=if c then k else none
@[simp] theorem zaa {R:Type} (k:Option R):chk true k=k:=rfl
theorem zfK {R:Type}{c:Bool}(h:c=true)(k:Option R):chk c k=k:=by rw[h];rfl
/-- One of two. -/
def sumE {A B R:Type}(x:A ⊕ B)(f:A->R)(g:B->R):R:=match x with
  |.inl a=>f a
  |.inr b=>g b
@[simp] theorem zaw {A B R:Type} (a:A) (f:A->R) (g:B->R):sumE (.inl a) f g=f a:=rfl
@[simp] theorem zec {A B R:Type} (b:B) (f:A->R) (g:B->R):sumE (.inr b) f g=g b:=rfl

/-! ### Maps: keys with values, in the order in which the keys came -/
def mhas {K V:Type}[DecidableEq K]:List (K × V)->K->Bool
  |[],_=>false
  |p::r,k=>decide (p.1=k)||mhas r k
def mget {K V:Type}[DecidableEq K]:List (K × V)->K->V->V
  |[],_,d=>d
  |p::r,k,d=>if p.1=k then p.2 else mget r k d
def mset {K V:Type}[DecidableEq K]:List (K × V)->K->V->List (K × V)
  |[],k,v=>[(k,v)]
  |p::r,k,v=>if p.1=k then (k,v)::r else p::mset r k v

def nodupB:List (List UInt8)->Bool
  |[]=>true
  |x::r=>!r.contains x&&nodupB r
/-- A map's keys, in order. -/
def skeys {V:Type}(l:List (List UInt8 × V)):List (List UInt8):=(l.map fun p=>p.1).mergeSort fun x y=>decide (x<=y)
def skeysOk {V:Type}(l:List (List UInt8 × V)):Bool:=Nat.ble l.length 1000000&&((l.all fun p=>Nat.ble p.1.length 1000000)&&nodupB (l.map fun p=>p.1))

/-! ### Texts -/
/-- A text without the bytes of a set at its ends. -/
def trim (l cs:List UInt8):List UInt8:=((l.reverse.dropWhile (cs.contains ·)).reverse).dropWhile (cs.contains ·)
/-- How two texts lie: -1, 0, 1. -/
def cmp3 (a b:List UInt8):Int:=if Op.bytesLess a b then -1 else if a=b then 0 else 1
/-- A set of two bytes or more (no great many), none of them beyond ASCII. -/
def ascii (l:List UInt8):Bool:=Nat.ble 2 l.length&&(Nat.ble l.length 200&&l.all fun b=>Nat.blt b.toNat 128)

/-! ### Loops -/
def loopN {σ X : Type} (f : σ -> Option (σ ⊕ X)) : Nat -> σ -> Option X
  |0,_=>none
  | n + 1, s => match f s with
    |some (.inl s')=>loopN f n s'
    |some (.inr x)=>some x
    |none=>none
open Classical in
noncomputable def loopM{σ X:Type}(f:σ->Option (σ ⊕ X))(s:σ):Option X :=
  if h:∃x n,loopN f n s=some x then some (choose h) else none
theorem zdn {σ X:Type}{f:σ->Option (σ ⊕ X)}:∀{n m:Nat} {s:σ} {x:X},loopN f n s=some x->n<=m->loopN f m s=some x
  |0,_,_,_,h,_=>by cases h
  |n+1,0,_,_,_,h=>by omega
  | n + 1, m + 1, s, x, h, hm => by
    simp only[loopN]at h ⊢
    split at h
    ·exact zdn h (by omega)
    ·exact h
    ·cases h
theorem zjl {σ X:Type}{f:σ->Option (σ ⊕ X)}{n m:Nat}{s:σ}{x y:X}(h:loopN f n s=some x)(k:loopN f m s=some y):x=y:=by
  have h1:=zdn h (Nat.le_max_left n m)
  have h2:=zdn k (Nat.le_max_right n m)
  rw[h1]at h2;exact Option.some.inj h2
theorem zcI {σ X:Type}{f:σ->Option (σ ⊕ X)}{s:σ}{x:X}:loopM f s=some x ↔ ∃n,loopN f n s=some x:=by
  classical
  unfold loopM
  constructor
  · intro h
    split at h
    · rename_i hh
      cases h
      exact Classical.choose_spec hh
    ·cases h
  · rintro⟨n,h⟩
    have hh:∃x n,loopN f n s=some x:=⟨x,n,h⟩
    rw[dif_pos hh]
    obtain⟨m,hm⟩:=Classical.choose_spec hh
    rw[zjl hm h]
theorem zaK {σ X:Type}(f:σ->Option (σ ⊕ X))(s:σ):loopM f s=match f s with
    |some (.inl s')=>loopM f s'
    |some (.inr x)=>some x
    |none=>none:=by
  apply Option.ext
  intro x
  rw[zcI]
  constructor
  · rintro⟨n,h⟩
    cases n with
    |zero=>cases h
    | succ n =>
      simp only[loopN]at h
      split at h
      ·exact zcI.2 ⟨n,h⟩
      ·exact h
      ·cases h
  · intro h
    split at h
    · rename_i e
      obtain⟨n,hn⟩:=zcI.1 h
      exact⟨n+1,by simp only[loopN,e];exact hn⟩
    ·rename_i e;exact⟨1,by simp only[loopN,e];exact h⟩
    ·cases h

end Sh
