/- Gp, part 52: pure programs read as typed Lean functions: programs. -/
import Derived.Test.YtbifjnccebhmkaaGpSh2
import Derived.Test.YtbifjnccebhmkaaShBase
set_option linter.unusedVariables false
set_option linter.unusedSimpArgs false
namespace Gp
open Go Sh

structure Fn where
  ins : List Ty
  outs : List Ty
  f : Tup ins → Option (Tup outs)

@[reducible] def need {R : Type} : List Bool → Option R → Option R
  | [], k => k
  | b :: r, k => if b then need r k else none

/-! ### Ways out of a loop -/
@[reducible] def XT : List (List Ty) → Type
  | [] => Empty
  | [t] => Tup t
  | t :: u :: r => Tup t ⊕ XT (u :: r)
def xin : (L : List (List Ty)) → Nat → List Slot → Option (XT L)
  | [], _, _ => none
  | [t], 0, sl => packs t sl
  | [_], _ + 1, _ => none
  | t :: u :: r, 0, sl => match packs t sl with
    | some s => some (.inl s)
    | none => none
  | t :: u :: r, k + 1, sl => match xin (u :: r) k sl with
    | some s => some (.inr s)
    | none => none
def xout {R : Type} : (L : List (List Ty)) → XT L → (Nat → List Slot → Option R) → Option R
  | [], _, _ => none
  | [t], x, f => f 0 (unp t x)
  | t :: u :: r, x, f => match x with
    | .inl s => f 0 (unp t s)
    | .inr y => xout (u :: r) y (fun k => f (k + 1))

/-! ### Programs -/
inductive Ann where
  | nil
  | sis (ts : List Ty)
  | seq (a b : Ann)
  | cond (J : Option (Nat × List Ty)) (esc : Bool) (a b : Ann)
  | block (J : Option (Nat × List Ty)) (esc : Bool) (a : Ann)
  | loop (nb : Nat) (ts : List Ty) (es : List (Nat × Nat)) (L : List (List Ty)) (a : Ann)
  deriving Repr, Inhabited

def lowS (nb : Nat) : List (Grd × SI) → Bool
  | [] => true
  | (_, .set x _) :: r => Nat.ble nb x && lowS nb r
  | (_, .mov x _) :: r => Nat.ble nb x && lowS nb r
  | (_, .chk _) :: r => lowS nb r
  | (_, .call _ _ x _) :: r => Nat.ble nb x && lowS nb r
def lowP (nb : Nat) : PI → Bool
  | .skip | .exit _ | .ret _ => true
  | .sis l => lowS nb l
  | .seq a b | .cond _ a b => lowP nb a && lowP nb b
  | .block _ a | .loop a => lowP nb a

def gbnd (g : Grd) (n : Nat) : Bool := g.all fun q => q.1.bnd n
def gB (K : Kno) (ρ : List Slot) : Grd → Option (Bool × List Bool)
  | [] => some (true, [])
  | [(e, b)] => match ev K ρ e [] (.ty .bool) with
    | some x => match x.as .bool with
      | some v => some ((match b with | true => v | false => !v), x.ob)
      | none => none
    | none => none
  | (e, b) :: q :: r => match gB K ρ (q :: r) with
    | some (c, ob) => match ev K ρ e (q :: r) (.ty .bool) with
      | some x => match x.as .bool with
        | some v => some (c && (match b with | true => v | false => !v), ob ++ x.ob.map fun o => !c || o)
        | none => none
      | none => none
    | none => none
def evs (K : Kno) (ρ : List Slot) (G : Grd) : List Exp → (ts : List Ty) → Option (Tup ts × List Bool)
  | [], [] => some ((), [])
  | [e], [t] => match ev K ρ e G (.ty t) with
    | some x => match x.as t with
      | some v => some (v, x.ob)
      | none => none
    | none => none
  | e :: es, t :: u :: r => match ev K ρ e G (.ty t) with
    | some x => match x.as t with
      | some v => match evs K ρ G es (u :: r) with
        | some (w, ob) => some ((v, w), x.ob ++ ob)
        | none => none
      | none => none
    | none => none
  | _, _ => none

/-- Obligations of a reading, each by its reading. -/
def obE (K : Kno) (ρ : List Slot) : List Exp → Option (List Bool)
  | [] => some []
  | .bin .and a b :: r => if knows K [] (.bin .and a b) then obE K ρ r else match ev K ρ (.bin .and a b) [] (.ty .bool) with
    | some x => match x.as .bool with
      | some v => match obE K ρ r with
        | some l => some (x.ob ++ (v :: l))
        | none => none
      | none => none
    | none => none
  | _ :: _ => none
def rsL (K : Kno) : List Exp → List Exp × List Exp
  | [] => ([], [])
  | e :: es => ((rs K e).1 :: (rsL K es).1, (rs K e).2 ++ (rsL K es).2)
/-- No definition (which is told in the same list). -/
def notDef : Exp → Bool
  | .bin .cons _ _ => false
  | _ => true

def dnS (fs : List Fn) (i : Nat) {R : Type} (k : Kno → List Slot → Option R) : List (Grd × SI) → List Ty → Kno → List Slot → Option R
  | [], _, K, ρ => k K ρ
  | (g, .set x e) :: r, ts, K, ρ => match ts with
    | [] => none
    | t :: ts => if Nat.beq x ρ.length && gbnd g ρ.length then match g with
      | [] => match obE K ρ (rs K e).2 with
        | some ob0 => if hasHole (rs K e).1 then (if (rs K e).1.bnd ρ.length then need ob0 (dnS fs i k r ts (([], defE x (rs K e).1) :: K) (ρ ++ [⟨[(.bool false, true)], .unit, ()⟩])) else none)
          else match ev K ρ (rs K e).1 [] (.ty t) with
            | some v => match v.as t with
              | some w => need ob0 (need v.ob (dnS fs i k r ts K (ρ ++ [⟨[], t, w⟩])))
              | none => none
            | none => none
        | none => none
      | _ => match ev K ρ e g (.ty t) with
        | some v => match v.as t with
          | some w => match gB K ρ g with
            | some (c, ob) => need ob (need (v.ob.map fun o => !c || o) (dnS fs i k r ts K (ρ ++ [⟨g, t, w⟩])))
            | none => none
          | none => none
        | none => none
      else none
  | (g, .mov x es) :: r, ts, K, ρ => match g with
    | [] => if Nat.ble x ρ.length then match obE K ρ (rsL K es).2 with
      | some ob0 => match evs K ρ [] (rsL K es).1 (ts.take es.length) with
        | some (a, ob) => need ob0 (need ob (dnS fs i k r (ts.drop es.length) (K.bnd x) (ρ.take x ++ unp _ a)))
        | none => none
      | none => none
      else none
    | _ => none
  | (g, .chk e) :: r, ts, K, ρ => if e.bnd ρ.length && gbnd g ρ.length && notDef e then match g with
    | [] => match obE K ρ (rs K e).2 with
      | some ob0 => match ev K ρ (rs K e).1 [] (.ty .bool) with
        | some v => match v.as .bool with
          | some c => need ob0 (need v.ob (if c then dnS fs i k r ts (([], e) :: K) ρ else none))
          | none => none
        | none => none
      | none => none
    | _ => match ev K ρ e g (.ty .bool) with
      | some v => match v.as .bool with
        | some c => match gB K ρ g with
          | some (gc, ob) => need ob (need (v.ob.map fun o => !gc || o) (if !gc || c then dnS fs i k r ts ((g, e) :: K) ρ else none))
          | none => none
        | none => none
      | none => none
    else none
  | (g, .call j args x n) :: r, ts, K, ρ => if Nat.beq x ρ.length && gbnd g ρ.length && Nat.blt j i then match fs[j]? with
    | some F => if Nat.beq n F.outs.length then match g with
      | [] => match obE K ρ (rsL K args).2 with
        | some ob0 => match evs K ρ [] (rsL K args).1 F.ins with
          | some (a, ob) => need ob0 (need ob ((F.f a).bind fun s => dnS fs i k r ts K (ρ ++ unpG [] F.outs s)))
          | none => none
        | none => none
      | _ => match evs K ρ g args F.ins with
        | some (a, ob) => match gB K ρ g with
          | some (c, ob') => need ob' (need (ob.map fun o => !c || o) ((if c then F.f a else some (tdflt F.outs)).bind fun s => dnS fs i k r ts K (ρ ++ unpG g F.outs s)))
          | none => none
        | none => none
      else none
    | none => none
    else none

def findE (id : Nat) : List (Nat × Nat) → Option (Nat × Nat)
  | [] => none
  | (a, n) :: r => if Nat.beq a id then some (0, n) else match findE id r with
    | some (k, n) => some (k + 1, n)
    | none => none

noncomputable def dn (fs : List Fn) (i : Nat) (to : List Ty) : {R : Type} → PI → Ann → Kno → List Slot → (Kno → List Slot → Option R) → (Nat → List Slot → Option R) → (List Slot → Option R) → Option R
  | _, .skip, _, K, ρ, kn, ke, kr => kn K ρ
  | _, .sis l, .sis ts, K, ρ, kn, ke, kr => dnS fs i kn l ts K ρ
  | _, .seq a b, .seq ha hb, K, ρ, kn, ke, kr => dn fs i to a ha K ρ (fun K' ρ' => dn fs i to b hb K' ρ' kn ke kr) ke kr
  | _, .cond e a b, .cond J esc ha hb, K, ρ, kn, ke, kr => match ev K ρ e [] (.ty .bool) with
    | some x => match x.as .bool with
      | some c => match J with
        | none => need x.ob (if c then dn fs i to a ha K ρ kn ke kr else dn fs i to b hb K ρ kn ke kr)
        | some (nb, ts) => if Nat.ble nb ρ.length && lowP nb a && lowP nb b then match esc with
          | true =>
            let j : Tup ts → Option _ := fun s => kn (K.bnd nb) (ρ.take nb ++ unp ts s)
            let k : Kno → List Slot → Option _ := fun _ ρ' => match packs ts (ρ'.drop nb) with
              | some s => j s
              | none => none
            need x.ob (if c then dn fs i to a ha K ρ k ke kr else dn fs i to b hb K ρ k ke kr)
          | false =>
            let k : Kno → List Slot → Option (Tup ts) := fun _ ρ' => packs ts (ρ'.drop nb)
            need x.ob ((if c then dn fs i to a ha K ρ k (fun _ _ => none) (fun _ => none) else dn fs i to b hb K ρ k (fun _ _ => none) (fun _ => none)).bind fun s => kn (K.bnd nb) (ρ.take nb ++ unp ts s))
          else none
      | none => none
    | none => none
  | _, .block id a, .block J esc ha, K, ρ, kn, ke, kr => match J with
    | none => dn fs i to a ha K ρ (fun _ _ => none) (fun id' ρ' => if Nat.beq id' id then none else ke id' ρ') kr
    | some (nb, ts) => if Nat.ble nb ρ.length && lowP nb a then match esc with
      | true =>
        let j : Tup ts → Option _ := fun s => kn (K.bnd nb) (ρ.take nb ++ unp ts s)
        let k : List Slot → Option _ := fun ρ' => match packs ts (ρ'.drop nb) with
          | some s => j s
          | none => none
        dn fs i to a ha K ρ (fun _ ρ' => k ρ') (fun id' ρ' => if Nat.beq id' id then k ρ' else ke id' ρ') kr
      | false =>
        let k : List Slot → Option (Tup ts) := fun ρ' => packs ts (ρ'.drop nb)
        (dn fs i to a ha K ρ (fun _ ρ' => k ρ') (fun id' ρ' => if Nat.beq id' id then k ρ' else none) (fun _ => none)).bind fun s => kn (K.bnd nb) (ρ.take nb ++ unp ts s)
      else none
  | _, .loop a, .loop nb ts es L ha, K, ρ, kn, ke, kr => if Nat.ble nb ρ.length && lowP nb a && es.all (fun e => Nat.ble e.2 nb) then match packs ts (ρ.drop nb) with
    | some s0 => (loopM (fun s => dn fs i to (R := Tup ts ⊕ XT L) a ha (K.bnd nb) (ρ.take nb ++ unp ts s)
        (fun _ ρ' => match packs ts (ρ'.drop nb) with
          | some s' => some (.inl s')
          | none => none)
        (fun id ρ' => match findE id es with
          | some (k, n) => match xin L k (ρ'.drop n) with
            | some x => some (.inr x)
            | none => none
          | none => none)
        (fun sl => match xin L es.length sl with
          | some x => some (.inr x)
          | none => none)) s0).bind fun x => xout L x (fun k sl => match es[k]? with
            | some (id, n) => ke id (ρ.take n ++ sl)
            | none => kr sl)
    | none => none
    else none
  | _, .exit id, _, K, ρ, kn, ke, kr => ke id ρ
  | _, .ret es, _, K, ρ, kn, ke, kr => match evs K ρ [] es to with
    | some (a, ob) => need ob (kr (unp to a))
    | none => none
  | _, _, _, _, _, _, _, _ => none

/-- A function's typed reading. -/
noncomputable def dnFn (fs : List Fn) (i : Nat) (p : PI) (h : Ann) (ins outs : List Ty) (a : Tup ins) : Option (Tup outs) :=
  dn fs i outs p h [] (unp ins a) (fun _ _ => none) (fun _ _ => none) (fun sl => packs outs sl)
end Gp
