/- Gp, part 3: shapes of what temporaries and memory hold, and what a shape tells of a state of the machine. -/
import Derived.Test.YtbifjnccebhmkaaGpMem
set_option linter.unusedVariables false
set_option linter.unusedSimpArgs false
namespace Gp
open Go

inductive Leaf where
  | dead
  | int (k : IntKind) (e : Exp) | bool (e : Exp) | str (e : Exp)
  | sl (o : Nat) (et : TypeId) (off len : Exp)
  | slw (o : Nat) (et : TypeId)
  | nil
  | pb (o j : Nat)
  | pe (o : Nat) (et : TypeId) (i : Exp) (j : Nat)
  | fn (f : Nat) (caps : List Nat)
  deriving DecidableEq, Repr, Inhabited

inductive S1 where
  | one (l : Leaf)
  | agg (ls : List Leaf)
  deriving DecidableEq, Repr, Inhabited

inductive SV where
  | s (x : S1)
  | tup (xs : List S1)
  deriving DecidableEq, Repr, Inhabited

inductive Obj where
  | row (dp : Bool) (et : TypeId) (d : Exp)
  | view (par : Nat) (pd : Exp) (i : Exp) (j : Nat) (et : TypeId) (d : Exp)
  | box (rw : Bool) (cells : List Leaf)
  deriving DecidableEq, Repr, Inhabited

def Obj.owned : Obj → Bool
  | .row dp _ _ => dp
  | .view .. => false
  | .box rw _ => rw
def Obj.isView : Obj → Bool
  | .view .. => true
  | _ => false

def look {α : Type} (k : Nat) : List (Nat × α) → Option α
  | [] => none
  | (k', x) :: r => if Nat.beq k' k then some x else look k r
def drop {α : Type} (k : Nat) : List (Nat × α) → List (Nat × α)
  | [] => []
  | (k', x) :: r => if Nat.beq k' k then drop k r else (k', x) :: drop k r
def putL {α : Type} (k : Nat) (x : α) (l : List (Nat × α)) : List (Nat × α) := (k, x) :: drop k l
theorem look_drop_self {α : Type} (k : Nat) : ∀ l : List (Nat × α), look k (drop k l) = none
  | [] => rfl
  | (k', x) :: r => by
    simp only [drop]; split
    · exact look_drop_self k r
    · simp only [look]; rw [if_neg ‹_›]; exact look_drop_self k r
theorem look_drop_ne {α : Type} {k k' : Nat} (h : k ≠ k') : ∀ l : List (Nat × α), look k' (drop k l) = look k' l
  | [] => rfl
  | (q, x) :: r => by
    simp only [drop]; split
    · rename_i e
      have : q = k := by simpa using e
      subst this
      simp only [look]; rw [if_neg (by simpa using h)]; exact look_drop_ne h r
    · simp only [look]; split
      · rfl
      · exact look_drop_ne h r
theorem look_putL_self {α : Type} (k : Nat) (x : α) (l : List (Nat × α)) : look k (putL k x l) = some x := by simp [putL, look]
theorem look_putL_ne {α : Type} {k k' : Nat} (h : k ≠ k') (x : α) (l : List (Nat × α)) : look k' (putL k x l) = look k' l := by
  simp only [putL, look]; rw [if_neg (by simpa using h)]; exact look_drop_ne h l

structure Gam where
  tm : List (Nat × (Grd × SV))
  ob : List (Nat × (Grd × Obj))
  deriving Repr, Inhabited, DecidableEq
def Gam.get (Γ : Gam) (t : Nat) : Option (Grd × SV) := look t Γ.tm
def Gam.obj (Γ : Gam) (o : Nat) : Option (Grd × Obj) := look o Γ.ob
def Gam.put (Γ : Gam) (t : Nat) (x : Grd × SV) : Gam := { Γ with tm := putL t x Γ.tm }
def Gam.setOb (Γ : Gam) (o : Nat) (x : Grd × Obj) : Gam := { Γ with ob := putL o x Γ.ob }
def Gam.delOb (Γ : Gam) (o : Nat) : Gam := { Γ with ob := drop o Γ.ob }
theorem Gam.get_put_self (Γ : Gam) (t : Nat) (x : Grd × SV) : (Γ.put t x).get t = some x := look_putL_self ..
theorem Gam.get_put_ne (Γ : Gam) {t t' : Nat} (x : Grd × SV) (h : t ≠ t') : (Γ.put t x).get t' = Γ.get t' := look_putL_ne h ..
theorem Gam.obj_put (Γ : Gam) (t : Nat) (x : Grd × SV) (o : Nat) : (Γ.put t x).obj o = Γ.obj o := rfl
theorem Gam.get_setOb (Γ : Gam) (o : Nat) (x : Grd × Obj) (t : Nat) : (Γ.setOb o x).get t = Γ.get t := rfl
theorem Gam.obj_setOb_self (Γ : Gam) (o : Nat) (x : Grd × Obj) : (Γ.setOb o x).obj o = some x := look_putL_self ..
theorem Gam.obj_setOb_ne (Γ : Gam) {o o' : Nat} (x : Grd × Obj) (h : o ≠ o') : (Γ.setOb o x).obj o' = Γ.obj o' := look_putL_ne h ..
theorem Gam.get_delOb (Γ : Gam) (o : Nat) (t : Nat) : (Γ.delOb o).get t = Γ.get t := rfl
theorem Gam.obj_delOb_self (Γ : Gam) (o : Nat) : (Γ.delOb o).obj o = none := look_drop_self ..
theorem Gam.obj_delOb_ne (Γ : Gam) {o o' : Nat} (h : o ≠ o') : (Γ.delOb o).obj o' = Γ.obj o' := look_drop_ne h ..

/-- What stands where a nested row was taken out (and is now the object o). -/
def holeE (o : Nat) : Exp := .un (.cell o) (.int 0)
def isHoleE : Exp → Bool
  | .un (.cell _) (.int n) => n == 0
  | _ => false
theorem isHoleE_eq {d : Exp} (h : isHoleE d = true) : ∃ o, d = holeE o := by
  unfold isHoleE at h
  split at h
  · rename_i o n; exact ⟨o, by simp at h; subst h; rfl⟩
  · cases h
/-- Where things lie. -/
structure Ctx where
  A : Nat → Option Addr
  N : Nat → Nat
  K : Nat → Nat
  F : Nat → CS

def Tab.sz (tab : Tab) (t : TypeId) : Nat := ((tab.get t).map (·.size)).getD 0

section
variable (tab : Tab) (C : Ctx) (kn : Nat → Prop) (ρ : Env)

def LeafRel : Leaf → Value → Prop
  | .dead, _ => True
  | .int k e, v => ∃ n, den ρ e = .int n ∧ v = .int k n
  | .bool e, v => ∃ b, den ρ e = .bool b ∧ v = .bool b
  | .str e, v => ∃ s, den ρ e = .str s ∧ v = .string s
  | .sl o et off len, v => kn o ∧ ∃ (m n : Nat) (a : Option Addr) (c : Nat), den ρ off = .int m ∧ den ρ len = .int n ∧ v = .slice a n c ∧ m + n ≤ C.N o ∧ n ≤ c ∧ m + c = C.K o ∧
      (c = 0 ∨ ∃ b base, C.A o = some ⟨b, base, none⟩ ∧ a = some ⟨b, base + m * tab.sz et, none⟩)
  | .slw o et, v => kn o ∧ ∃ a, v = .slice a (C.N o) (C.K o) ∧ (C.K o = 0 ∨ ∃ b base, C.A o = some ⟨b, base, none⟩ ∧ a = some ⟨b, base, none⟩)
  | .nil, v => v = .slice none 0 0
  | .pb o j, v => kn o ∧ ∃ b base, C.A o = some ⟨b, base, none⟩ ∧ v = .pointer (some ⟨b, base + j, none⟩)
  | .pe o et i j, v => kn o ∧ ∃ (m : Nat) (b base : Nat), den ρ i = .int m ∧ m < C.N o ∧ C.A o = some ⟨b, base, none⟩ ∧ v = .pointer (some ⟨b, base + m * tab.sz et + j, none⟩)
  | .fn f caps, v => ∃ vs : Array Value, v = .func (.func f) #[] vs ∧ vs.size = caps.length ∧
      ∀ (i o : Nat), caps[i]? = some o → kn o ∧ ∃ b base, C.A o = some ⟨b, base, none⟩ ∧ vs[i]? = some (.pointer (some ⟨b, base, none⟩))

def LeavesRel (ls : List Leaf) (vs : Array Value) : Prop := vs.size = ls.length ∧ ∀ (i : Nat) l, ls[i]? = some l → ∃ u, vs[i]? = some u ∧ LeafRel tab C kn ρ l u
def S1Rel : S1 → Value → Prop
  | .one l, v => LeafRel tab C kn ρ l v ∧ ∀ cs, v ≠ .agg cs
  | .agg ls, v => ∃ vs, v = .agg vs ∧ LeavesRel tab C kn ρ ls vs
def SVRel : SV → Value → Prop
  | .s x, v => S1Rel tab C kn ρ x v
  | .tup xs, v => ∃ vs, v = .tuple vs ∧ vs.size = xs.length ∧ ∀ (i : Nat) x, xs[i]? = some x → ∃ u, vs[i]? = some u ∧ S1Rel tab C kn ρ x u

def ObRel (Γ : Gam) (w : World) (o : Nat) : Obj → Prop
  | .row dp et d => ∃ rows, den ρ d = .list rows ∧ DRel tab w dp (.sl et) (.slice (C.A o) (C.N o) (C.K o)) (.list rows) (C.F o)
  | .view par pd i j et d => ∀ gp pet, Γ.obj par = some (gp, .row true pet pd) → holdsG ρ gp →
      ∃ (m b base : Nat) (rows : List T), den ρ i = .int m ∧ m < C.N par ∧ C.A par = some ⟨b, base, none⟩ ∧ den ρ pd = .list rows ∧
        ((∃ o0, d = holeE o0 ∧ kn o0 ∧ C.A o = C.A o0 ∧ C.N o = C.N o0 ∧ C.K o = C.K o0) ∨ ∃ rs, den ρ d = .list rs ∧ rs.length = C.N o ∧ cellT (tab.sz pet) rows m j = .list rs) ∧ (∃ ti, tab.get pet = some ti ∧ ti.cks[j]? = some (.sl et)) ∧
        cellAt w b (base + m * tab.sz pet + j) = some (.slice (C.A o) (C.N o) (C.K o))
  | .box rw cells => ∃ b base, C.A o = some ⟨b, base, none⟩ ∧ C.F o = Rng b base cells.length ∧
      (∀ (j : Nat) l, cells[j]? = some l → ∃ v, cellAt w b (base + j) = some v ∧ LeafRel tab C kn ρ l v) ∧
      (rw = true → ∀ x, x < cells.length → frozenAt w b (base + x) = false)
end

structure Frame (Wr : CS) (w0 w : World) : Prop where
  size : w0.heap.size ≤ w.heap.size
  blk : ∀ b, b < w0.heap.size → (∀ x, ¬ Wr b x) → w.heap[b]? = w0.heap[b]?
  cel : ∀ b x, b < w0.heap.size → ¬ Wr b x → SameAt w0 w b x
  os : w.os = w0.os
  tape : w.tape = w0.tape
  output : w.output = w0.output

/-- What is known by number: objects, variables. -/
structure Kn where
  o : Nat → Prop
  v : Nat → Prop

def Obj.verOk (kn : Kn) : Obj → Prop
  | .row true _ d => ∃ x, d = .var x ∧ kn.v x
  | .view par pd _ _ _ _ => kn.o par ∧ ∃ x, pd = .var x ∧ kn.v x
  | _ => True

structure Rel (tab : Tab) (Γ : Gam) (ρ : Env) (tm : Array Value) (w : World) (C : Ctx) (kn : Kn) (Wr : CS) (w0 : World) : Prop where
  tms : ∀ t g sv, Γ.get t = some (g, sv) → (holdsG ρ g → SVRel tab C kn.o ρ sv (tm.getD t undef)) ∧ (¬ holdsG ρ g → tm.getD t undef = undef)
  obs : ∀ o g ob, Γ.obj o = some (g, ob) → kn.o o ∧ ob.verOk kn ∧ (holdsG ρ g → ObRel tab C kn.o ρ Γ w o ob)
  dis : ∀ o o' g g' ob ob', Γ.obj o = some (g, ob) → Γ.obj o' = some (g', ob') → holdsG ρ g → holdsG ρ g' → o ≠ o' → ob.owned = true → ob'.isView = false → Disj (C.F o) (C.F o')
  own : ∀ o g ob, Γ.obj o = some (g, ob) → holdsG ρ g → ob.owned = true → ∀ b x, C.F o b x → Wr b x ∨ w0.heap.size ≤ b
  frm : Frame Wr w0 w

end Gp
