/- Gp, part 19: calls: signatures, contracts, what a call leaves. -/
import Derived.Test.YtbifjnccebhmkaaGpCoe
set_option linter.unusedVariables false
set_option linter.unusedSimpArgs false
namespace Gp
open Go

/-- How a function is called: the shapes of what goes in and of what comes out. Variables 0, 1, .. are the data. -/
structure Sig where
  f : FuncId
  ins : List S1
  obs : Obs
  nin : Nat
  outs : List S1
  oobs : Obs
  nout : Nat
  deriving Repr, Inhabited

def noGam : Gam := ⟨[], []⟩
def ownedIn (obs : Obs) (o : Nat) : Prop := ∃ ob, look o obs = some ob ∧ ob.owned = true
def WrOf (obs : Obs) (C : Ctx) : CS := fun b x => ∃ o ob, look o obs = some ob ∧ ob.owned = true ∧ C.F o b x
def kIn (obs : Obs) : Nat → Prop := fun o => ∃ ob, look o obs = some ob

/-- The arguments fit the signature. -/
structure EntryRel (tab : Tab) (S : Sig) (ρ : Env) (args : Array Value) (w : World) (C : Ctx) : Prop where
  size : args.size = S.ins.length
  arg : ∀ (i : Nat) x, S.ins[i]? = some x → ∃ v, args[i]? = some v ∧ S1Rel tab C (kIn S.obs) ρ x v
  ob : ∀ o ob, look o S.obs = some ob → ob.isView = false ∧ ObRel tab C (kIn S.obs) ρ noGam w o ob
  dis : ∀ o1 o2 ob1 ob2, look o1 S.obs = some ob1 → look o2 S.obs = some ob2 → o1 ≠ o2 → ob1.owned = true → Disj (C.F o1) (C.F o2)

def ResRel (tab : Tab) (C : Ctx) (k : Nat → Prop) (ρ : Env) (outs : List S1) (v : Value) : Prop :=
  match outs with
  | [x] => S1Rel tab C k ρ x v
  | xs => SVRel tab C k ρ (.tup xs) v

structure OutRel (tab : Tab) (S : Sig) (ρ : Env) (C C' : Ctx) (w w' : World) (v : Value) : Prop where
  res : ResRel tab C' (fun o => kIn S.obs o ∨ kIn S.oobs o) ρ S.outs v
  ob : ∀ o ob, look o S.oobs = some ob → ob.isView = false ∧ ObRel tab C' (fun o => kIn S.obs o ∨ kIn S.oobs o) ρ noGam w' o ob
  dis : ∀ o1 o2 ob1 ob2, look o1 S.oobs = some ob1 → look o2 S.oobs = some ob2 → o1 ≠ o2 → ob1.owned = true → Disj (C'.F o1) (C'.F o2)
  own : ∀ o ob, look o S.oobs = some ob → ∀ b x, C'.F o b x → WrOf S.obs C b x ∨ w.heap.size ≤ b
  same : ∀ o, kIn S.obs o → C'.A o = C.A o ∧ C'.N o = C.N o ∧ C'.K o = C.K o
  trn : Turned (WrOf S.obs C) w w'

/-- A function's contract at one signature: with these data in, these data come out. -/
def Contract (P : Program) (tab : Tab) (S : Sig) (ds outs : List T) : Prop :=
  ∀ (args : Array Value) (w : World) (C : Ctx), EntryRel tab S (envOf ds) args w C →
    Calls P S.f args w fun e w' => ∃ v C', e = .returned v ∧ OutRel tab S (envOf outs) C C' w w' v

section
variable {tab : Tab} {Γ : Gam} {ρ : Env} {tm : Array Value} {w w' : World} {C : Ctx} {kn kn' : Kn} {Wr : CS} {w0 : World} {P : Program} {I : Nat → List T → List T → Prop} {G : Grd} {nx no : Nat}

/-- Several objects are added at once: new ones, and such as were known and had been put aside. -/
theorem Rel.addL (h : Rel tab Γ ρ tm w C kn Wr w0) {L : List (Nat × (Grd × Obj))} {Γ' : Gam} {C' : Ctx} (hget : ∀ t, Γ'.get t = Γ.get t) (hobj : ∀ o, Γ'.obj o = match look o L with | some x => some x | none => Γ.obj o)
    (habs : ∀ o x, look o L = some x → Γ.obj o = none) (hk : kn.le kn') (hkL : ∀ o x, look o L = some x → kn'.o o) (hC : ∀ o, kn.o o → C'.A o = C.A o ∧ C'.N o = C.N o ∧ C'.K o = C.K o) (hF : ∀ o x, Γ.obj o = some x → C'.F o = C.F o)
    (hL : ∀ o g ob, look o L = some (g, ob) → ob.isView = false ∧ ob.verOk kn' ∧ (∀ et x, ob = .row true et (.var x) → ¬ kn.v x) ∧ (holdsG ρ g → ObRel tab C' kn'.o ρ noGam w o ob))
    (hdL : ∀ o1 o2 g1 g2 ob1 ob2, look o1 L = some (g1, ob1) → look o2 L = some (g2, ob2) → holdsG ρ g1 → holdsG ρ g2 → o1 ≠ o2 → ob1.owned = true → Disj (C'.F o1) (C'.F o2))
    (hd : ∀ o1 o2 g1 g2 ob1 ob2, look o1 L = some (g1, ob1) → Γ.obj o2 = some (g2, ob2) → holdsG ρ g1 → holdsG ρ g2 → ob2.isView = false → (ob1.owned = true ∨ ob2.owned = true) → Disj (C'.F o1) (C.F o2))
    (hw : ∀ o g ob, look o L = some (g, ob) → holdsG ρ g → ob.owned = true → ∀ b x, C'.F o b x → Wr b x ∨ w0.heap.size ≤ b) :
    Rel tab Γ' ρ tm w C' kn' Wr w0 := by
  have hsplit : ∀ o x, Γ'.obj o = some x → look o L = some x ∨ (look o L = none ∧ Γ.obj o = some x) := by
    intro o x hx
    rw [hobj] at hx
    cases hl : look o L with
    | some y => rw [hl] at hx; exact .inl hx
    | none => rw [hl] at hx; exact .inr ⟨rfl, hx⟩
  exact {
    tms := fun t g sv ht => by
      rw [hget] at ht
      obtain ⟨h1, h2⟩ := h.tms t g sv ht
      exact ⟨fun hg => (h1 hg).mono hk.1 hC, h2⟩
    obs := fun o g ob ho => by
      rcases hsplit o _ ho with hl | ⟨hl, ho'⟩
      · obtain ⟨q1, q2, q3, q4⟩ := hL o g ob hl
        exact ⟨hkL o _ hl, q2, fun hg => (q4 hg).congrObj fun par pd i j et d he => by rw [he] at q1; cases q1⟩
      · obtain ⟨q1, q2, q3⟩ := h.obs o g ob ho'
        refine ⟨hk.1 o q1, q2.mono hk.1 hk.2, fun hg => ?_⟩
        refine ((q3 hg).mono hk.1 q1 hC (hF o _ ho') fun par pd i j et d _ gp pet hp => (h.obs par gp _ hp).1).congrObj fun par pd i j et d he gp pet hp hgp => ?_
        rcases hsplit par _ hp with hl2 | ⟨hl2, hp'⟩
        · exfalso
          rw [he] at q2
          obtain ⟨_, x, hx1, hx2⟩ := q2
          obtain ⟨_, _, z3, _⟩ := hL par gp _ hl2
          exact z3 pet x (by rw [hx1]) hx2
        · exact ⟨gp, hp', hgp⟩
    dis := fun a b ga gb oa ob ha hb hga hgb hab hoa hvb => by
      rcases hsplit a _ ha with hla | ⟨hla, ha'⟩
      · rcases hsplit b _ hb with hlb | ⟨hlb, hb'⟩
        · exact hdL a b ga gb oa ob hla hlb hga hgb hab hoa
        · rw [hF b _ hb']; exact hd a b ga gb oa ob hla hb' hga hgb hvb (.inl hoa)
      · rcases hsplit b _ hb with hlb | ⟨hlb, hb'⟩
        · rw [hF a _ ha']; exact (hd b a gb ga ob oa hlb ha' hgb hga (by cases oa <;> simp_all [Obj.owned, Obj.isView]) (.inr hoa)).symm
        · rw [hF a _ ha', hF b _ hb']; exact h.dis a b ga gb oa ob ha' hb' hga hgb hab hoa hvb
    own := fun a ga oa ha hga hoa b x hf => by
      rcases hsplit a _ ha with hla | ⟨hla, ha'⟩
      · exact hw a ga oa hla hga hoa b x hf
      · rw [hF a _ ha'] at hf; exact h.own a ga oa ha' hga hoa b x hf
    frm := h.frm }

theorem obj_adds : ∀ (L : List (Nat × (Grd × Obj))) (Γ : Gam) (o : Nat), (Γ.appOb (L.reverse.map fun p => (p.1, some p.2))).obj o = match look o L with | some x => some x | none => Γ.obj o
  | [], Γ, o => rfl
  | (k, x) :: L, Γ, o => by
    rw [List.reverse_cons, List.map_append, Gam.appOb_append]
    simp only [List.map_cons, List.map_nil, Gam.appOb]
    by_cases e : k = o
    · subst e; rw [Gam.obj_setOb_self, look_cons_self]
    · rw [Gam.obj_setOb_ne _ _ e, obj_adds L Γ o, look_cons_ne e]

/-- Expressions over a callee's data, told over the caller's variables. -/
def Exp.shift (z : Nat) : Exp → Exp
  | .var x => .var (z + x)
  | .int n => .int n
  | .bool b => .bool b
  | .str l => .str l
  | .nil => .nil
  | .un o a => .un o (a.shift z)
  | .bin o a b => .bin o (a.shift z) (b.shift z)
  | .tri o a b c => .tri o (a.shift z) (b.shift z) (c.shift z)
theorem shift_den {z n : Nat} {outs : List T} (h : ∀ (j : Nat) v, outs[j]? = some v → ρ (z + j) = v) (hn : outs.length = n) : ∀ e : Exp, e.bnd n = true → den ρ (e.shift z) = den (envOf outs) e
  | .var x, hb => by
    have hx : x < n := by simpa [Exp.bnd] using hb
    simp only [Exp.shift, den, envOf]
    rw [List.getD_eq_getElem?_getD]
    obtain ⟨v, hv⟩ : ∃ v, outs[x]? = some v := ⟨_, List.getElem?_eq_getElem (by omega)⟩
    rw [hv, h x v hv]; rfl
  | .int _, _ | .bool _, _ | .str _, _ | .nil, _ => rfl
  | .un o a, hb => by simp only [Exp.shift, den]; rw [shift_den h hn a hb]
  | .bin o a b, hb => by
    simp only [Exp.bnd, Bool.and_eq_true] at hb
    simp only [Exp.shift, den]; rw [shift_den h hn a hb.1, shift_den h hn b hb.2]
  | .tri o a b c, hb => by
    simp only [Exp.bnd, Bool.and_eq_true] at hb
    simp only [Exp.shift, den]; rw [shift_den h hn a hb.1, shift_den h hn b hb.2.1, shift_den h hn c hb.2.2]

/-- The numbers of what is new at the callee's exit, in the caller's count. -/
def newAt (obs : Obs) : List (Nat × Obj) → Nat → Nat → Option Nat
  | [], _, _ => none
  | (k, _) :: r, n, o => if (look k obs).isSome then newAt obs r n o else if Nat.beq k o then some n else newAt obs r (n + 1) o
def newCount (obs : Obs) : List (Nat × Obj) → Nat
  | [] => 0
  | (k, _) :: r => if (look k obs).isSome then newCount obs r else newCount obs r + 1

def backBox (th : List (Nat × Ref)) (c : Nat) : Option Nat := match look c th with
  | some (.bx o) => some o
  | _ => none
def backLeaf (S : Sig) (th : List (Nat × Ref)) (no z : Nat) : Leaf → Option Leaf
  | .dead => some .dead
  | .nil => some .nil
  | .int k e => if e.bnd S.nout then some (.int k (e.shift z)) else none
  | .bool e => if e.bnd S.nout then some (.bool (e.shift z)) else none
  | .str e => if e.bnd S.nout then some (.str (e.shift z)) else none
  | .sl o' et off len => if off.bnd S.nout && len.bnd S.nout then
      match look o' S.obs with
      | some (.row _ et2 _) => match look o' th with
        | some (.sl o off0 _) => if et2 = et then some (.sl o et (plusE off0 (off.shift z)) (len.shift z)) else none
        | _ => some .dead
      | some _ => some .dead
      | none => match newAt S.obs S.oobs no o' with
        | some o => some (.sl o et (off.shift z) (len.shift z))
        | none => some .dead
    else none
  | .slw o' et => match look o' S.obs with
      | some (.row _ et2 _) => match look o' th with
        | some (.sl o off0 len0) => if et2 = et then some (.sl o et off0 len0) else none
        | _ => some .dead
      | some _ => some .dead
      | none => match newAt S.obs S.oobs no o' with
        | some o => some (.slw o et)
        | none => some .dead
  | .pb o' j => match backBox th o' with
    | some o => some (.pb o j)
    | none => none
  | .pe .. => none
  | .fn f caps => match caps.mapM (backBox th) with
    | some cs => some (.fn f cs)
    | none => none
def backS1 (S : Sig) (th : List (Nat × Ref)) (no z : Nat) : S1 → Option S1
  | .one l => match backLeaf S th no z l with
    | some .dead => none
    | some l => some (.one l)
    | none => none
  | .agg ls => match ls.mapM (backLeaf S th no z) with
    | some ls' => some (.agg ls')
    | none => none

/-- One exit object, for the caller: its number there, and what is told of it. -/
def backOb (S : Sig) (G : Grd) (th : List (Nat × Ref)) (no z : Nat) (o' : Nat) (ob : Obj) : Option (Option (Nat × (Nat × (Grd × Obj)))) :=
  match look o' S.obs with
  | some x =>
    if x.owned then match look o' th, ob with
    | some (.sl o _ _), .row true et (.var y) => if Nat.blt y S.nout then some (some (o, o', [], .row true et (.var (z + y)))) else none
    | some .nil, .row true _ _ => some none
    | some (.bx o), .box true cells => match cells.mapM (backLeaf S th no z) with
      | some cs => some (some (o, o', [], .box true cs))
      | none => none
    | _, _ => none
    else none
  | none => match ob, newAt S.obs S.oobs no o' with
    | .row true et (.var y), some n => if Nat.blt y S.nout then some (some (n, o', G, .row true et (.var (z + y)))) else none
    | _, _ => none
abbrev BackL := List (Nat × (Nat × (Grd × Obj)))
/-- What becomes of the exit's objects: the caller's objects that they are. -/
def backObs (S : Sig) (G : Grd) (th : List (Nat × Ref)) (no z : Nat) : List (Nat × Obj) → Option BackL
  | [] => some []
  | (o', ob) :: r => match backOb S G th no z o' ob, backObs S G th no z r with
    | some (some x), some l => some (x :: l)
    | some none, some l => some l
    | _, _ => none
end
end Gp
