/- Gp, part 1: pure data, expressions over it, and pure programs with a big-step meaning. No Go memory here. -/
import Derived.Orders
set_option linter.unusedVariables false
set_option linter.unusedSimpArgs false
namespace Gp
open Go

/-- Pure data: what a Go value holds, memory struck out. -/
inductive T where
  | hole
  | int (n : Int)
  | bool (b : Bool)
  | str (s : ByteArray)
  | list (l : List T)
  deriving Inhabited

namespace T
def toInt : T → Int | .int n => n | _ => 0
def toBool : T → Bool | .bool b => b | _ => false
def toStr : T → ByteArray | .str s => s | _ => ByteArray.empty
def toList : T → List T | .list l => l | _ => []
def isList : T → T | .list _ => .bool true | _ => .bool false

def arI (o : BinOp) (k : IntKind) (x y : Int) : T :=
  match o with
  | .add => .int (k.wrap (x + y))
  | .sub => .int (k.wrap (x - y))
  | .mul => .int (k.wrap (x * y))
  | .quo => .int (k.wrap (x.tdiv y))
  | .rem => .int (x.tmod y)
  | .and => .int (k.wrap (BitVec.ofInt k.bits x &&& BitVec.ofInt k.bits y).toNat)
  | .or => .int (k.wrap (BitVec.ofInt k.bits x ||| BitVec.ofInt k.bits y).toNat)
  | .xor => .int (k.wrap (BitVec.ofInt k.bits x ^^^ BitVec.ofInt k.bits y).toNat)
  | .andNot => .int (k.wrap (BitVec.ofInt k.bits x &&& ~~~ BitVec.ofInt k.bits y).toNat)
  | .shl => .int (k.wrap (x * 2 ^ (min y.toNat k.bits)))
  | .shr => .int (x.fdiv (2 ^ (min y.toNat k.bits)))
  | _ => .hole
def ar (o : BinOp) (k : IntKind) : T → T → T
  | .int x, .int y => arI o k x y
  | _, _ => .hole
def cmpI (o : BinOp) (x y : Int) : T :=
  match o with
  | .eql => .bool (x == y)
  | .neq => .bool (x != y)
  | .lss => .bool (x < y)
  | .leq => .bool (x ≤ y)
  | .gtr => .bool (x > y)
  | .geq => .bool (x ≥ y)
  | _ => .hole
def cmp (o : BinOp) : T → T → T
  | .int x, .int y => cmpI o x y
  | _, _ => .hole
def scmpS (o : BinOp) (x y : ByteArray) : T :=
  match o with
  | .eql => .bool (x.toList == y.toList)
  | .neq => .bool !(x.toList == y.toList)
  | .lss => .bool (Op.bytesLess x.toList y.toList)
  | .leq => .bool (Op.bytesLess x.toList y.toList || x.toList == y.toList)
  | .gtr => .bool !(Op.bytesLess x.toList y.toList || x.toList == y.toList)
  | .geq => .bool !(Op.bytesLess x.toList y.toList)
  | _ => .hole
def scmp (o : BinOp) : T → T → T
  | .str x, .str y => scmpS o x y
  | _, _ => .hole
def bcmp (o : BinOp) : T → T → T
  | .bool x, .bool y => match o with
    | .eql => .bool (x == y)
    | .neq => .bool (x != y)
    | _ => .hole
  | _, _ => .hole
def plus : T → T → T | .int x, .int y => .int (x + y) | _, _ => .hole
def minus : T → T → T | .int x, .int y => .int (x - y) | _, _ => .hole
def band : T → T → T | .bool x, .bool y => .bool (x && y) | _, _ => .hole
def bor : T → T → T | .bool x, .bool y => .bool (x || y) | _, _ => .hole
def not : T → T | .bool x => .bool !x | _ => .hole
def conv (k : IntKind) : T → T | .int x => .int (k.wrap x) | _ => .hole
def neg (k : IntKind) : T → T | .int x => .int (k.wrap (0 - x)) | _ => .hole
def ite (c a b : T) : T := match c with | .bool true => a | .bool false => b | _ => .hole
def len : T → T | .list l => .int l.length | _ => .hole
def slen : T → T | .str s => .int s.size | _ => .hole
def idx : T → T → T
  | .list l, .int n => if n < 0 then .hole else l.getD n.toNat .hole
  | _, _ => .hole
def cell (j : Nat) : T → T | .list l => l.getD j .hole | _ => .hole
def setI : T → T → T → T
  | .list l, .int n, v => if n < 0 then .hole else .list (l.set n.toNat v)
  | _, _, _ => .hole
def setC (j : Nat) : T → T → T
  | .list l, v => .list (l.set j v)
  | _, _ => .hole
def cat : T → T → T | .list a, .list b => .list (a ++ b) | _, _ => .hole
def cons : T → T → T | a, .list b => .list (a :: b) | _, _ => .hole
def ext : T → T → T → T
  | .list l, .int a, .int b => .list ((l.take b.toNat).drop a.toNat)
  | _, _, _ => .hole
def scat : T → T → T | .str a, .str b => .str (a ++ b) | _, _ => .hole
def sidx : T → T → T
  | .str s, .int n => if n < 0 then .hole else match s.data[n.toNat]? with | some b => .int b.toNat | none => .hole
  | _, _ => .hole
def sext : T → T → T → T
  | .str s, .int a, .int b => .str (s.extract a.toNat b.toNat)
  | _, _, _ => .hole
def rep : T → T → T | .int n, v => .list (List.replicate n.toNat v) | _, _ => .hole
def imax : T → T → T | .int x, .int y => .int (if y > x then y else x) | _, _ => .hole
def imin : T → T → T | .int x, .int y => .int (if y < x then y else x) | _, _ => .hole
def bytes : T → T | .str s => .list (s.data.toList.map fun b => .int b.toNat) | _ => .hole
def unbytes : T → T | .list l => .str ⟨(l.map fun t => UInt8.ofNat t.toInt.toNat).toArray⟩ | _ => .hole
end T

inductive U where
  | not | conv (k : IntKind) | neg (k : IntKind) | len | slen | cell (j : Nat) | bytes | unbytes | isList
  deriving DecidableEq, Repr
inductive B where
  | ar (o : BinOp) (k : IntKind) | cmp (o : BinOp) | scmp (o : BinOp) | bcmp (o : BinOp) | and | or
  | plus | minus | idx | setC (j : Nat) | cat | cons | scat | sidx | rep | max | min
  deriving DecidableEq, Repr
inductive Tr where
  | ite | setI | ext | sext
  deriving DecidableEq, Repr

def U.den : U → T → T
  | .not => T.not | .conv k => T.conv k | .neg k => T.neg k | .len => T.len | .slen => T.slen
  | .cell j => T.cell j | .bytes => T.bytes | .unbytes => T.unbytes | .isList => T.isList
def B.den : B → T → T → T
  | .ar o k => T.ar o k | .cmp o => T.cmp o | .scmp o => T.scmp o | .bcmp o => T.bcmp o | .and => T.band | .or => T.bor
  | .plus => T.plus | .minus => T.minus
  | .idx => T.idx | .setC j => T.setC j | .cat => T.cat | .cons => T.cons | .scat => T.scat | .sidx => T.sidx | .rep => T.rep
  | .max => T.imax | .min => T.imin
def Tr.den : Tr → T → T → T → T
  | .ite => T.ite | .setI => T.setI | .ext => T.ext | .sext => T.sext

inductive Exp where
  | var (x : Nat)
  | int (n : Int) | bool (b : Bool) | str (l : List UInt8) | nil
  | un (o : U) (a : Exp)
  | bin (o : B) (a b : Exp)
  | tri (o : Tr) (a b c : Exp)
  deriving DecidableEq, Repr, Inhabited

abbrev Env := Nat → T
def upd (ρ : Env) (x : Nat) (v : T) : Env := fun y => if y = x then v else ρ y
def updL (ρ : Env) (x : Nat) : List T → Env
  | [] => ρ
  | v :: r => updL (upd ρ x v) (x + 1) r

def den (ρ : Env) : Exp → T
  | .var x => ρ x
  | .int n => .int n
  | .bool b => .bool b
  | .str l => .str ⟨l.toArray⟩
  | .nil => .list []
  | .un o a => o.den (den ρ a)
  | .bin o a b => o.den (den ρ a) (den ρ b)
  | .tri o a b c => o.den (den ρ a) (den ρ b) (den ρ c)

/-- All variables of an expression are below a bound. -/
def Exp.bnd (n : Nat) : Exp → Bool
  | .var x => Nat.blt x n
  | .int _ | .bool _ | .str _ | .nil => true
  | .un _ a => a.bnd n
  | .bin _ a b => a.bnd n && b.bnd n
  | .tri _ a b c => a.bnd n && (b.bnd n && c.bnd n)

def Agree (n : Nat) (ρ ρ' : Env) : Prop := ∀ x, x < n → ρ' x = ρ x
theorem Agree.refl (n : Nat) (ρ : Env) : Agree n ρ ρ := fun _ _ => rfl
theorem Agree.trans {n : Nat} {a b c : Env} (h : Agree n a b) (k : Agree n b c) : Agree n a c := fun x hx => (k x hx).trans (h x hx)
theorem Agree.mono {n m : Nat} {a b : Env} (h : Agree n a b) (hm : m ≤ n) : Agree m a b := fun x hx => h x (Nat.lt_of_lt_of_le hx hm)

theorem den_agree {n : Nat} {ρ ρ' : Env} (h : Agree n ρ ρ') : ∀ e : Exp, e.bnd n = true → den ρ' e = den ρ e
  | .var x, hb => h x (by simpa [Exp.bnd] using hb)
  | .int _, _ | .bool _, _ | .str _, _ | .nil, _ => rfl
  | .un o a, hb => by simp only [den]; rw [den_agree h a hb]
  | .bin o a b, hb => by
    simp only [Exp.bnd, Bool.and_eq_true] at hb
    simp only [den]; rw [den_agree h a hb.1, den_agree h b hb.2]
  | .tri o a b c, hb => by
    simp only [Exp.bnd, Bool.and_eq_true] at hb
    simp only [den]; rw [den_agree h a hb.1, den_agree h b hb.2.1, den_agree h c hb.2.2]

theorem agree_upd {n x : Nat} {ρ : Env} {v : T} (h : n ≤ x) : Agree n ρ (upd ρ x v) := fun y hy => by
  unfold upd; rw [if_neg (by omega)]
theorem agree_updL {n : Nat} : ∀ (l : List T) (x : Nat) (ρ : Env), n ≤ x → Agree n ρ (updL ρ x l)
  | [], _, _, _ => Agree.refl _ _
  | v :: r, x, ρ, h => (agree_upd h).trans (agree_updL r (x + 1) _ (by omega))
theorem updL_get : ∀ (l : List T) (x : Nat) (ρ : Env) (i : Nat) (v : T), l[i]? = some v → updL ρ x l (x + i) = v
  | [], _, _, _, _, h => by simp at h
  | u :: r, x, ρ, 0, v, h => by
    simp at h; subst h
    have := agree_updL (n := x + 1) r (x + 1) (upd ρ x u) (Nat.le_refl _) x (by omega)
    simp only [updL, Nat.add_zero]; rw [this]; simp [upd]
  | u :: r, x, ρ, i + 1, v, h => by
    have := updL_get r (x + 1) (upd ρ x u) i v (by simpa using h)
    simp only [updL]; rw [show x + (i + 1) = x + 1 + i by omega]; exact this

/-- Guards: each expression must be this bool. -/
abbrev Grd := List (Exp × Bool)
def holdsG (ρ : Env) : Grd → Prop
  | [] => True
  | (e, b) :: r => den ρ e = .bool b ∧ holdsG ρ r

inductive SI where
  | set (x : Nat) (e : Exp)
  | mov (x : Nat) (es : List Exp)
  | chk (e : Exp)
  | call (inst : Nat) (args : List Exp) (x n : Nat)
  deriving Repr, Inhabited

inductive PI where
  | skip
  | sis (l : List (Grd × SI))
  | seq (a b : PI)
  | cond (e : Exp) (a b : PI)
  | block (id : Nat) (a : PI)
  | loop (a : PI)
  | exit (id : Nat)
  | ret (es : List Exp)
  deriving Repr, Inhabited

inductive Ex where
  | normal | exit (id : Nat) | ret (outs : List T)

/-- What a number of an instance means: code, or a relation between what goes in and what comes out. -/
inductive Body where
  | code (p : PI)
  | prim (R : List T → List T → Prop)

/-- Simultaneous moves: for loops' heads and where ways meet. -/
def envOf (ds : List T) : Env := fun x => ds.getD x .hole

inductive Big (I : Nat → Option Body) : PI → Env → Ex → Env → Prop where
  | skip {ρ} : Big I .skip ρ .normal ρ
  | nil {ρ} : Big I (.sis []) ρ .normal ρ
  | off {g s l ρ e ρ'} : ¬ holdsG ρ g → Big I (.sis l) ρ e ρ' → Big I (.sis ((g, s) :: l)) ρ e ρ'
  | set {g x e l ρ ex ρ'} : holdsG ρ g → Big I (.sis l) (upd ρ x (den ρ e)) ex ρ' → Big I (.sis ((g, .set x e) :: l)) ρ ex ρ'
  | mov {g x es l ρ ex ρ'} : holdsG ρ g → Big I (.sis l) (updL ρ x (es.map (den ρ))) ex ρ' → Big I (.sis ((g, .mov x es) :: l)) ρ ex ρ'
  | chk {g e l ρ ex ρ'} : holdsG ρ g → den ρ e = .bool true → Big I (.sis l) ρ ex ρ' → Big I (.sis ((g, .chk e) :: l)) ρ ex ρ'
  | call {g i args x n l ρ ex ρ' p outs ρ₁} : holdsG ρ g → I i = some (.code p) →
      Big I p (envOf (args.map (den ρ))) (.ret outs) ρ₁ → outs.length = n →
      Big I (.sis l) (updL ρ x outs) ex ρ' → Big I (.sis ((g, .call i args x n) :: l)) ρ ex ρ'
  | prim {g i args x n l ρ ex ρ' R outs} : holdsG ρ g → I i = some (.prim R) → R (args.map (den ρ)) outs → outs.length = n →
      Big I (.sis l) (updL ρ x outs) ex ρ' → Big I (.sis ((g, .call i args x n) :: l)) ρ ex ρ'
  | seq {a b ρ ρ₁ ex ρ₂} : Big I a ρ .normal ρ₁ → Big I b ρ₁ ex ρ₂ → Big I (.seq a b) ρ ex ρ₂
  | seqOut {a b ρ ex ρ₁} : Big I a ρ ex ρ₁ → ex ≠ .normal → Big I (.seq a b) ρ ex ρ₁
  | yes {e a b ρ ex ρ₁} : den ρ e = .bool true → Big I a ρ ex ρ₁ → Big I (.cond e a b) ρ ex ρ₁
  | no {e a b ρ ex ρ₁} : den ρ e = .bool false → Big I b ρ ex ρ₁ → Big I (.cond e a b) ρ ex ρ₁
  | block {id a ρ ρ₁} : Big I a ρ .normal ρ₁ → Big I (.block id a) ρ .normal ρ₁
  | blockIn {id a ρ ρ₁} : Big I a ρ (.exit id) ρ₁ → Big I (.block id a) ρ .normal ρ₁
  | blockOut {id a ρ ex ρ₁} : Big I a ρ ex ρ₁ → ex ≠ .normal → ex ≠ .exit id → Big I (.block id a) ρ ex ρ₁
  | loop {a ρ ρ₁ ex ρ₂} : Big I a ρ .normal ρ₁ → Big I (.loop a) ρ₁ ex ρ₂ → Big I (.loop a) ρ ex ρ₂
  | loopOut {a ρ ex ρ₁} : Big I a ρ ex ρ₁ → ex ≠ .normal → Big I (.loop a) ρ ex ρ₁
  | exit {id ρ} : Big I (.exit id) ρ (.exit id) ρ
  | ret {es ρ} : Big I (.ret es) ρ (.ret (es.map (den ρ))) ρ

/-- A call of an instance. -/
def CallI (I : Nat → Option Body) (i : Nat) (ds outs : List T) : Prop :=
  (∃ p ρ₁, I i = some (.code p) ∧ Big I p (envOf ds) (.ret outs) ρ₁) ∨ (∃ R, I i = some (.prim R) ∧ R ds outs)

end Gp
