/- Gp, part 50: pure programs read as typed Lean functions: types, values, expressions. -/
import Derived.Test.YtbifjnccebhmkaaGpCtl5
set_option linter.unusedVariables false
set_option linter.unusedSimpArgs false
namespace Gp
open Go

inductive Ty where
  | int | bool | str | list (t : Ty) | unit | pair (a b : Ty)
  deriving Repr, Inhabited

@[reducible] def Ty.den : Ty → Type
  | .int => Int | .bool => Bool | .str => List UInt8 | .list t => List t.den | .unit => Unit | .pair a b => a.den × b.den
def Ty.encB : (t : Ty) → t.den → T × List T
  | .int, n => (.int n, [.int n])
  | .bool, b => (.bool b, [.bool b])
  | .str, s => (.str ⟨s.toArray⟩, [.str ⟨s.toArray⟩])
  | .list t, l => (.list (l.map fun x => (t.encB x).1), [.list (l.map fun x => (t.encB x).1)])
  | .unit, _ => (.list [], [.list []])
  | .pair a b, v => (.list ((a.encB v.1).1 :: (b.encB v.2).2), (a.encB v.1).1 :: (b.encB v.2).2)
def Ty.enc (t : Ty) (v : t.den) : T := (t.encB v).1
def Ty.encP (t : Ty) (v : t.den) : List T := (t.encB v).2
def Ty.isPair : Ty → Bool
  | .pair .. => true
  | _ => false
theorem Ty.encP_one : ∀ (t : Ty) (v : t.den), t.isPair = false → t.encP v = [t.enc v]
  | .int, _, _ | .bool, _, _ | .str, _, _ | .list _, _, _ | .unit, _, _ => rfl
  | .pair .., _, h => by cases h
@[simp] theorem Ty.enc_int (n : Int) : Ty.int.enc n = .int n := rfl
@[simp] theorem Ty.enc_bool (b : Bool) : Ty.bool.enc b = .bool b := rfl
@[simp] theorem Ty.enc_str (s : List UInt8) : Ty.str.enc s = .str ⟨s.toArray⟩ := rfl
@[simp] theorem Ty.enc_list (t : Ty) (l : List t.den) : (Ty.list t).enc l = .list (l.map t.enc) := rfl
@[simp] theorem Ty.enc_unit (v : Unit) : Ty.unit.enc v = .list [] := rfl
@[simp] theorem Ty.enc_pair (a b : Ty) (v : a.den × b.den) : (Ty.pair a b).enc v = .list (a.enc v.1 :: b.encP v.2) := rfl
@[simp] theorem Ty.encP_pair (a b : Ty) (v : a.den × b.den) : (Ty.pair a b).encP v = a.enc v.1 :: b.encP v.2 := rfl

def Ty.dflt : (t : Ty) → t.den
  | .int => (0 : Int) | .bool => false | .str => ([] : List UInt8) | .list t => ([] : List t.den) | .unit => () | .pair a b => (a.dflt, b.dflt)
def Ty.eq? : (a b : Ty) → Option (PLift (a = b))
  | .int, .int => some ⟨rfl⟩
  | .bool, .bool => some ⟨rfl⟩
  | .str, .str => some ⟨rfl⟩
  | .unit, .unit => some ⟨rfl⟩
  | .list a, .list b => match a.eq? b with
    | some ⟨h⟩ => some ⟨congrArg Ty.list h⟩
    | none => none
  | .pair a b, .pair c d => match a.eq? c with
    | some ⟨h⟩ => match b.eq? d with
      | some ⟨k⟩ => some ⟨by rw [h, k]⟩
      | none => none
    | none => none
  | _, _ => none

/-- A value of some type. -/
structure TV where
  t : Ty
  v : t.den
def TV.as (x : TV) (t : Ty) : Option t.den := match x.t.eq? t with
  | some ⟨h⟩ => some (h ▸ x.v)
  | none => none
def TV.enc (x : TV) : T := x.t.enc x.v
theorem TV.as_eq {x : TV} {t : Ty} {v : t.den} (h : x.as t = some v) : x = ⟨t, v⟩ := by
  unfold TV.as at h
  split at h
  · rename_i hh _
    obtain ⟨t', v'⟩ := x
    cases hh
    cases h; rfl
  · cases h

structure Slot where
  g : Grd
  x : TV

@[reducible] def Tup : List Ty → Type
  | [] => Unit
  | [t] => t.den
  | t :: u :: r => t.den × Tup (u :: r)
def unpG (g : Grd) : (ts : List Ty) → Tup ts → List Slot
  | [], _ => []
  | [t], a => [⟨g, t, a⟩]
  | t :: u :: r, a => ⟨g, t, a.1⟩ :: unpG g (u :: r) a.2
def unp : (ts : List Ty) → Tup ts → List Slot := unpG []
def encs : (ts : List Ty) → Tup ts → List T
  | [], _ => []
  | [t], a => [t.enc a]
  | t :: u :: r, a => t.enc a.1 :: encs (u :: r) a.2
def tdflt : (ts : List Ty) → Tup ts
  | [] => ()
  | [t] => t.dflt
  | t :: u :: r => (t.dflt, tdflt (u :: r))
def Slot.as (s : Slot) (t : Ty) : Option t.den := match s.g with
  | [] => s.x.as t
  | _ => none
def packs : (ts : List Ty) → List Slot → Option (Tup ts)
  | [], [] => some ()
  | [t], [s] => s.as t
  | t :: u :: r, s :: ss => match s.as t with
    | some a => match packs (u :: r) ss with
      | some b => some (a, b)
      | none => none
    | none => none
  | _, _ => none

/-! ### Expressions -/
def Exp.eqb : Exp → Exp → Bool
  | .var x, .var y => Nat.beq x y
  | .int a, .int b => decide (a = b)
  | .bool a, .bool b => a == b
  | .str a, .str b => decide (a = b)
  | .nil, .nil => true
  | .un o a, .un o' a' => decide (o = o') && a.eqb a'
  | .bin o a b, .bin o' a' b' => decide (o = o') && (a.eqb a' && b.eqb b')
  | .tri o a b c, .tri o' a' b' c' => decide (o = o') && (a.eqb a' && (b.eqb b' && c.eqb c'))
  | _, _ => false
theorem Exp.eqb_eq : ∀ {a b : Exp}, a.eqb b = true → a = b := by
  intro a
  induction a with
  | var x => intro b h; cases b <;> simp_all [Exp.eqb]
  | int x => intro b h; cases b <;> simp_all [Exp.eqb]
  | bool x => intro b h; cases b <;> simp_all [Exp.eqb]
  | str x => intro b h; cases b <;> simp_all [Exp.eqb]
  | nil => intro b h; cases b <;> simp_all [Exp.eqb]
  | un o a ih => intro b h; cases b <;> simp_all [Exp.eqb]; exact ih h.2
  | bin o a b iha ihb => intro b h; cases b <;> simp_all [Exp.eqb]; exact ⟨iha h.2.1, ihb h.2.2⟩
  | tri o a b c iha ihb ihc => intro b h; cases b <;> simp_all [Exp.eqb]; exact ⟨iha h.2.1, ihb h.2.2.1, ihc h.2.2.2⟩

theorem Exp.eqb_refl : ∀ a : Exp, a.eqb a = true := by
  intro a
  induction a with
  | var x => simp [Exp.eqb]
  | int x => simp [Exp.eqb]
  | bool x => simp [Exp.eqb]
  | str x => simp [Exp.eqb]
  | nil => rfl
  | un o a ih => simp [Exp.eqb, ih]
  | bin o a b iha ihb => simp [Exp.eqb, iha, ihb]
  | tri o a b c iha ihb ihc => simp [Exp.eqb, iha, ihb, ihc]

def subG (g G : Grd) : Bool := g.all fun x => G.any fun y => x.1.eqb y.1 && x.2 == y.2
theorem holdsG_all {ρ : Env} : ∀ {g : Grd}, holdsG ρ g ↔ ∀ p ∈ g, den ρ p.1 = .bool p.2
  | [] => by simp [holdsG]
  | (e, b) :: r => by simp [holdsG, holdsG_all (g := r)]
theorem subG_holds {ρ : Env} {g G : Grd} (h : subG g G = true) (hG : holdsG ρ G) : holdsG ρ g := by
  rw [holdsG_all] at hG ⊢
  intro p hp
  simp only [subG, List.all_eq_true, List.any_eq_true, Bool.and_eq_true, beq_iff_eq] at h
  obtain ⟨q, hq, h1, h2⟩ := h p hp
  rw [Exp.eqb_eq h1, h2]; exact hG q hq

abbrev Kno := List (Grd × Exp)
def rngE (l n : Exp) : Exp := .bin .and (.bin (.cmp .leq) (.int 0) n) (.bin (.cmp .lss) n (.un .len l))
def srngE (l n : Exp) : Exp := .bin .and (.bin (.cmp .leq) (.int 0) n) (.bin (.cmp .lss) n (.un .slen l))
def knows (K : Kno) (G : Grd) (e : Exp) : Bool := K.any fun p => e.eqb p.2 && subG p.1 G
def Kno.bnd (K : Kno) (n : Nat) : Kno := K.filter fun p => p.2.bnd n && p.1.all fun q => q.1.bnd n

/-! ### Holes: a variable whose data has holes stands for its definition -/
def hasHole : Exp → Bool
  | .un (.cell _) (.int _) => true
  | .un _ a => hasHole a
  | .bin _ a b => hasHole a || hasHole b
  | .tri _ a b c => hasHole a || (hasHole b || hasHole c)
  | _ => false
def defE (x : Nat) (d : Exp) : Exp := .bin .cons (.var x) d
def defOf (x : Nat) : Kno → Option Exp
  | [] => none
  | ([], .bin .cons (.var y) d) :: r => if Nat.beq y x then some d else defOf x r
  | _ :: r => defOf x r
def mkLen (a : Exp) : Exp × List Exp := match a with
  | .tri .setI l i _ => (.un .len l, [rngE l i])
  | a => (.un .len a, [])
def mkIdx (a i : Exp) : Exp × List Exp := match a with
  | .tri .setI l k v => if k.eqb i then (v, [rngE l i]) else (.bin .idx a i, [])
  | a => (.bin .idx a i, [])
def mkSetI (a i v : Exp) : Exp := match a with
  | .tri .setI l k _ => if k.eqb i then .tri .setI l i v else .tri .setI a i v
  | a => .tri .setI a i v
def mkSetC (j : Nat) (a v : Exp) : Exp := match a with
  | .bin (.setC k) r h => if Nat.beq j k then .bin (.setC j) r v else if hasHole h then .bin (.setC k) (.bin (.setC j) r v) h else .bin (.setC j) a v
  | a => .bin (.setC j) a v
def rsv (K : Kno) : Exp → Exp × List Exp
  | .var x => match defOf x K with
    | some d => (d, [])
    | none => (.var x, [])
  | .int n => (.int n, [])
  | .bool b => (.bool b, [])
  | .str s => (.str s, [])
  | .nil => (.nil, [])
  | .un o a => match o with
    | .len => ((mkLen (rsv K a).1).1, (rsv K a).2 ++ (mkLen (rsv K a).1).2)
    | o => (.un o (rsv K a).1, (rsv K a).2)
  | .bin o a b => match o with
    | .idx => ((mkIdx (rsv K a).1 (rsv K b).1).1, (rsv K a).2 ++ ((rsv K b).2 ++ (mkIdx (rsv K a).1 (rsv K b).1).2))
    | .setC j => (mkSetC j (rsv K a).1 (rsv K b).1, (rsv K a).2 ++ (rsv K b).2)
    | o => (.bin o (rsv K a).1 (rsv K b).1, (rsv K a).2 ++ (rsv K b).2)
  | .tri o a b c => match o with
    | .setI => (mkSetI (rsv K a).1 (rsv K b).1 (rsv K c).1, (rsv K a).2 ++ ((rsv K b).2 ++ (rsv K c).2))
    | o => (.tri o (rsv K a).1 (rsv K b).1 (rsv K c).1, (rsv K a).2 ++ ((rsv K b).2 ++ (rsv K c).2))
/-- The definitions that an expression's variables have. -/
def usesDef (K : Kno) : Exp → Bool
  | .var x => (defOf x K).isSome
  | .un _ a => usesDef K a
  | .bin _ a b => usesDef K a || usesDef K b
  | .tri _ a b c => usesDef K a || (usesDef K b || usesDef K c)
  | _ => false
/-- The expression to be read, and what must hold for it. -/
def rs (K : Kno) (e : Exp) : Exp × List Exp := if usesDef K e then rsv K e else (e, [])

def cellV : Nat → (t : Ty) → t.den → Option TV
  | 0, .pair a b, v => some ⟨a, v.1⟩
  | j + 1, .pair a (.pair b c), v => cellV j (.pair b c) v.2
  | 1, .pair a b, v => some ⟨b, v.2⟩
  | _, _, _ => none
def cellT? : Nat → Ty → Option Ty
  | 0, .pair a b => some a
  | j + 1, .pair a (.pair b c) => cellT? j (.pair b c)
  | 1, .pair a b => some b
  | _, _ => none
def setV : Nat → (t : Ty) → t.den → TV → Option t.den
  | 0, .pair a b, v, x => match x.as a with
    | some w => some (w, v.2)
    | none => none
  | j + 1, .pair a (.pair b c), v, x => match setV j (.pair b c) v.2 x with
    | some w => some (v.1, w)
    | none => none
  | 1, .pair a b, v, x => match x.as b with
    | some w => some (v.1, w)
    | none => none
  | _, _, _, _ => none

def infU : U → TV → Option TV
  | .not, ⟨.bool, b⟩ => some ⟨.bool, !b⟩
  | .conv k, ⟨.int, n⟩ => some ⟨.int, k.wrap n⟩
  | .neg k, ⟨.int, n⟩ => some ⟨.int, k.wrap (0 - n)⟩
  | .len, ⟨.list t, l⟩ => some ⟨.int, ((l.length : Nat) : Int)⟩
  | .slen, ⟨.str, s⟩ => some ⟨.int, ((s.length : Nat) : Int)⟩
  | .cell j, ⟨t, v⟩ => cellV j t v
  | .bytes, ⟨.str, s⟩ => some ⟨.list .int, s.map fun b => ((b.toNat : Nat) : Int)⟩
  | .unbytes, ⟨.list .int, l⟩ => some ⟨.str, l.map fun n => UInt8.ofNat n.toNat⟩
  | .isList, ⟨.list _, _⟩ => some ⟨.bool, true⟩
  | _, _ => none
def infAr (o : BinOp) (k : IntKind) (x y : Int) : Option Int :=
  match o with
  | .add => some (k.wrap (x + y))
  | .sub => some (k.wrap (x - y))
  | .mul => some (k.wrap (x * y))
  | .quo => some (k.wrap (x.tdiv y))
  | .rem => some (x.tmod y)
  | .and => some (k.wrap (BitVec.ofInt k.bits x &&& BitVec.ofInt k.bits y).toNat)
  | .or => some (k.wrap (BitVec.ofInt k.bits x ||| BitVec.ofInt k.bits y).toNat)
  | .xor => some (k.wrap (BitVec.ofInt k.bits x ^^^ BitVec.ofInt k.bits y).toNat)
  | .andNot => some (k.wrap (BitVec.ofInt k.bits x &&& ~~~ BitVec.ofInt k.bits y).toNat)
  | .shl => some (k.wrap (x * 2 ^ (min y.toNat k.bits)))
  | .shr => some (x.fdiv (2 ^ (min y.toNat k.bits)))
  | _ => none
def infCmp (o : BinOp) (x y : Int) : Option Bool :=
  match o with
  | .eql => some (decide (x = y))
  | .neq => some (!decide (x = y))
  | .lss => some (decide (x < y))
  | .leq => some (decide (x ≤ y))
  | .gtr => some (decide (y < x))
  | .geq => some (decide (y ≤ x))
  | _ => none
def infSc (o : BinOp) (x y : List UInt8) : Option Bool :=
  match o with
  | .eql => some (decide (x = y))
  | .neq => some (!decide (x = y))
  | .lss => some (Op.bytesLess x y)
  | .leq => some (Op.bytesLess x y || decide (x = y))
  | .gtr => some (!(Op.bytesLess x y || decide (x = y)))
  | .geq => some (!Op.bytesLess x y)
  | _ => none

structure EV where
  x : TV
  ob : List Bool
def EV.as (e : EV) (t : Ty) : Option t.den := e.x.as t
inductive Md where
  | any | ty (t : Ty) | tail (t : Ty)
def infB (K : Kno) (G : Grd) (ea eb : Exp) : B → TV → TV → Option EV
  | .ar o k, ⟨.int, x⟩, ⟨.int, y⟩ => match infAr o k x y with
    | some z => some ⟨⟨.int, z⟩, []⟩
    | none => none
  | .cmp o, ⟨.int, x⟩, ⟨.int, y⟩ => match infCmp o x y with
    | some z => some ⟨⟨.bool, z⟩, []⟩
    | none => none
  | .scmp o, ⟨.str, x⟩, ⟨.str, y⟩ => match infSc o x y with
    | some z => some ⟨⟨.bool, z⟩, []⟩
    | none => none
  | .bcmp .eql, ⟨.bool, x⟩, ⟨.bool, y⟩ => some ⟨⟨.bool, x == y⟩, []⟩
  | .bcmp .neq, ⟨.bool, x⟩, ⟨.bool, y⟩ => some ⟨⟨.bool, x != y⟩, []⟩
  | .and, ⟨.bool, x⟩, ⟨.bool, y⟩ => some ⟨⟨.bool, x && y⟩, []⟩
  | .or, ⟨.bool, x⟩, ⟨.bool, y⟩ => some ⟨⟨.bool, x || y⟩, []⟩
  | .plus, ⟨.int, x⟩, ⟨.int, y⟩ => some ⟨⟨.int, x + y⟩, []⟩
  | .minus, ⟨.int, x⟩, ⟨.int, y⟩ => some ⟨⟨.int, x - y⟩, []⟩
  | .max, ⟨.int, x⟩, ⟨.int, y⟩ => some ⟨⟨.int, max x y⟩, []⟩
  | .min, ⟨.int, x⟩, ⟨.int, y⟩ => some ⟨⟨.int, min x y⟩, []⟩
  | .scat, ⟨.str, x⟩, ⟨.str, y⟩ => some ⟨⟨.str, x ++ y⟩, []⟩
  | .idx, ⟨.list t, l⟩, ⟨.int, n⟩ => some ⟨⟨t, l.getD n.toNat t.dflt⟩, if knows K G (rngE ea eb) then [] else [decide (0 ≤ n) && decide (n < ((l.length : Nat) : Int))]⟩
  | .sidx, ⟨.str, l⟩, ⟨.int, n⟩ => some ⟨⟨.int, (((l.getD n.toNat 0).toNat : Nat) : Int)⟩, if knows K G (srngE ea eb) then [] else [decide (0 ≤ n) && decide (n < ((l.length : Nat) : Int))]⟩
  | .setC j, ⟨t, v⟩, x => match setV j t v x with
    | some w => some ⟨⟨t, w⟩, []⟩
    | none => none
  | _, _, _ => none

def ev (K : Kno) (ρ : List Slot) : Exp → Grd → Md → Option EV
  | .var x, G, m => match m with
    | .tail _ => none
    | _ => match ρ[x]? with
      | some s => if subG s.g G then some ⟨s.x, []⟩ else none
      | none => none
  | .int n, _, m => match m with
    | .tail _ => none
    | _ => some ⟨⟨.int, n⟩, []⟩
  | .bool b, _, m => match m with
    | .tail _ => none
    | _ => some ⟨⟨.bool, b⟩, []⟩
  | .str s, _, m => match m with
    | .tail _ => none
    | _ => some ⟨⟨.str, s⟩, []⟩
  | .nil, _, m => match m with
    | .ty (.list t) => some ⟨⟨.list t, []⟩, []⟩
    | .ty .unit => some ⟨⟨.unit, ()⟩, []⟩
    | _ => none
  | .un o a, G, m => match m with
    | .tail _ => none
    | _ => match ev K ρ a G .any with
      | some x => match infU o x.x with
        | some y => some ⟨y, x.ob⟩
        | none => none
      | none => none
  | .bin .cons a b, G, m => match m with
    | .any => none
    | .ty (.list t) => match ev K ρ a G (.ty t) with
      | some x => match x.as t with
        | some u => match ev K ρ b G (.ty (.list t)) with
          | some y => match y.as (.list t) with
            | some w => some ⟨⟨.list t, u :: w⟩, x.ob ++ y.ob⟩
            | none => none
          | none => none
        | none => none
      | none => none
    | .ty (.pair t q) => match ev K ρ a G (.ty t) with
      | some x => match x.as t with
        | some u => match ev K ρ b G (.tail q) with
          | some y => match y.as q with
            | some w => some ⟨⟨.pair t q, (u, w)⟩, x.ob ++ y.ob⟩
            | none => none
          | none => none
        | none => none
      | none => none
    | .tail (.pair t q) => match ev K ρ a G (.ty t) with
      | some x => match x.as t with
        | some u => match ev K ρ b G (.tail q) with
          | some y => match y.as q with
            | some w => some ⟨⟨.pair t q, (u, w)⟩, x.ob ++ y.ob⟩
            | none => none
          | none => none
        | none => none
      | none => none
    | .tail t => match b with
      | .nil => match ev K ρ a G (.ty t) with
        | some x => match x.as t with
          | some u => some ⟨⟨t, u⟩, x.ob⟩
          | none => none
        | none => none
      | _ => none
    | .ty _ => none
  | .bin .cat a b, G, m =>
    let go (t : Ty) : Option EV := match ev K ρ a G (.ty (.list t)) with
      | some x => match x.as (.list t) with
        | some u => match ev K ρ b G (.ty (.list t)) with
          | some y => match y.as (.list t) with
            | some w => some ⟨⟨.list t, u ++ w⟩, x.ob ++ y.ob⟩
            | none => none
          | none => none
        | none => none
      | none => none
    match m with
    | .ty (.list t) => go t
    | .any => match ev K ρ a G .any with
      | some ⟨⟨.list t, _⟩, _⟩ => go t
      | _ => match ev K ρ b G .any with
        | some ⟨⟨.list t, _⟩, _⟩ => go t
        | _ => none
    | _ => none
  | .bin .rep a b, G, m => match m with
    | .tail _ => none
    | .any => match ev K ρ a G (.ty .int) with
      | some x => match x.as .int with
        | some n => match ev K ρ b G .any with
          | some y => some ⟨⟨.list y.x.t, List.replicate n.toNat y.x.v⟩, x.ob ++ y.ob⟩
          | none => none
        | none => none
      | none => none
    | .ty (.list t) => match ev K ρ a G (.ty .int) with
      | some x => match x.as .int with
        | some n => match ev K ρ b G (.ty t) with
          | some y => match y.as t with
            | some w => some ⟨⟨.list t, List.replicate n.toNat w⟩, x.ob ++ y.ob⟩
            | none => none
          | none => none
        | none => none
      | none => none
    | _ => none
  | .bin (.setC j) a b, G, m => match m with
    | .tail _ => none
    | _ => match ev K ρ a G .any with
      | some x => match cellT? j x.x.t with
        | some t => match ev K ρ b G (.ty t) with
          | some y => match setV j x.x.t x.x.v y.x with
            | some w => some ⟨⟨x.x.t, w⟩, x.ob ++ y.ob⟩
            | none => none
          | none => none
        | none => none
      | none => none
  | .bin o a b, G, m => match m with
    | .tail _ => none
    | _ => match ev K ρ a G .any with
      | some x => match ev K ρ b G .any with
        | some y => match infB K G a b o x.x y.x with
          | some z => some ⟨z.x, x.ob ++ (y.ob ++ z.ob)⟩
          | none => none
        | none => none
      | none => none
  | .tri .ite c a b, G, m =>
    let go (t : Ty) : Option EV := match ev K ρ c G .any with
      | some x => match x.as .bool with
        | some cv => match ev K ρ a ((c, true) :: G) (.ty t) with
          | some y => match y.as t with
            | some u => match ev K ρ b ((c, false) :: G) (.ty t) with
              | some z => match z.as t with
                | some w => some ⟨⟨t, if cv then u else w⟩, x.ob ++ (y.ob.map (fun q => !cv || q) ++ z.ob.map (fun q => cv || q))⟩
                | none => none
              | none => none
            | none => none
          | none => none
        | none => none
      | none => none
    match m with
    | .tail _ => none
    | .ty t => go t
    | .any => match ev K ρ a ((c, true) :: G) .any with
      | some x => go x.x.t
      | none => match ev K ρ b ((c, false) :: G) .any with
        | some x => go x.x.t
        | none => none
  | .tri .setI a b c, G, m => match m with
    | .tail _ => none
    | _ => match ev K ρ a G .any with
      | some ⟨⟨.list t, l⟩, o1⟩ => match ev K ρ b G .any with
        | some y => match y.as .int with
          | some n => match ev K ρ c G (.ty t) with
            | some z => match z.as t with
              | some w => some ⟨⟨.list t, l.set n.toNat w⟩, o1 ++ (y.ob ++ (z.ob ++ if knows K G (rngE a b) then [] else [decide (0 ≤ n)]))⟩
              | none => none
            | none => none
          | none => none
        | none => none
      | _ => none
  | .tri .ext a b c, G, m => match m with
    | .tail _ => none
    | _ => match ev K ρ a G m with
      | some ⟨⟨.list t, l⟩, o1⟩ => match ev K ρ b G .any with
        | some y => match y.as .int with
          | some n => match ev K ρ c G .any with
            | some z => match z.as .int with
              | some k => some ⟨⟨.list t, (l.take k.toNat).drop n.toNat⟩, o1 ++ (y.ob ++ z.ob)⟩
              | none => none
            | none => none
          | none => none
        | none => none
      | _ => none
  | .tri .sext a b c, G, m => match m with
    | .tail _ => none
    | _ => match ev K ρ a G .any with
      | some ⟨⟨.str, l⟩, o1⟩ => match ev K ρ b G .any with
        | some y => match y.as .int with
          | some n => match ev K ρ c G .any with
            | some z => match z.as .int with
              | some k => some ⟨⟨.str, (l.take k.toNat).drop n.toNat⟩, o1 ++ (y.ob ++ z.ob)⟩
              | none => none
            | none => none
          | none => none
        | none => none
      | _ => none
end Gp
