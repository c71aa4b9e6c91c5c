/- Gp, part 18: one shape taken for another: where ways meet, at a loop's head, at a call's begin and end. -/
import Derived.Test.YtbifjnccebhmkaaGpOp12
set_option linter.unusedVariables false
set_option linter.unusedSimpArgs false
namespace Gp
open Go

inductive Ref where
  | sl (o : Nat) (off len : Exp)
  | nil
  | bx (o : Nat)
  deriving DecidableEq, Repr, Inhabited

structure Acc where
  th : List (Nat × Ref)
  sg : List (Nat × Exp)
  deriving Repr, Inhabited

def bindV (x : Nat) (e : Exp) (a : Acc) : Option Acc :=
  match look x a.sg with
  | some e' => if e = e' then some a else none
  | none => some { a with sg := (x, e) :: a.sg }
def mExp (nb : Nat) (e' e : Exp) (a : Acc) : Option Acc :=
  match e' with
  | .var x => if Nat.ble nb x then bindV x e a else if e' = e then some a else none
  | e' => if e' = e && e'.bnd nb then some a else none

/-- Is it the whole row? -/
def isWhole (d off len : Exp) : Bool := off == .int 0 && len == .un .len d

abbrev Obs := List (Nat × Obj)

/-- A slice's leaf 'sl o' et off' len'' is to stand for the source's 'sl o et off len'. -/
def mSl (tab : Tab) (Γ : Gam) (G : Grd) (nb : Nat) (obs : Obs) (o' : Nat) (et : TypeId) (off' len' : Exp) (o : Nat) (et2 : TypeId) (off len : Exp) (a : Acc) : Option Acc :=
  if et = et2 then
    match look o' obs with
    | some (.row dp et' (.var x)) =>
      if et' = et then
        match rowOf Γ G o, tab.get et with
        | some (dps, et3, d, vw), some _ =>
          if et3 = et then
            match look o' a.th with
            | none => if off' = .int 0 && len' = .un .len (.var x) && (!dp || (dps && !vw)) then
                (mExp nb (.var x) (extE d off len) a).map fun a => { a with th := (o', .sl o off len) :: a.th }
              else none
            | some (.sl o2 off2 len2) => if o2 = o then
                if off2 = off && len2 = len && off' = .int 0 && len' = .un .len (.var x) then some a
                else if isWhole d off2 len2 then (mExp nb off' off a).bind fun a => mExp nb len' len a else none
              else none
            | _ => none
          else none
        | _, _ => none
      else none
    | _ => none
  else none
/-- As 'mSl'; a part of a row that the target is to hold whole binds the whole row ahead. -/
def mSlW (tab : Tab) (Γ : Gam) (G : Grd) (nb : Nat) (obs : Obs) (o' : Nat) (et : TypeId) (off' len' : Exp) (o : Nat) (et2 : TypeId) (off len : Exp) (a : Acc) : Option Acc :=
  match look o' a.th, look o' obs with
  | none, some (.row _ _ (.var x)) =>
    if off' = .int 0 && len' = .un .len (.var x) then mSl tab Γ G nb obs o' et off' len' o et2 off len a
    else match rowOf Γ G o with
      | some (_, et3, d, _) => match mSl tab Γ G nb obs o' et (.int 0) (.un .len (.var x)) o et3 (.int 0) (.un .len d) a with
        | some a1 => mSl tab Γ G nb obs o' et off' len' o et2 off len a1
        | none => none
      | none => none
  | _, _ => mSl tab Γ G nb obs o' et off' len' o et2 off len a
def mNil (tab : Tab) (nb : Nat) (obs : Obs) (o' : Nat) (et : TypeId) (off' len' : Exp) (a : Acc) : Option Acc :=
  match look o' obs with
  | some (.row _ et' (.var x)) =>
    if et' = et && Nat.ble nb x && off' = .int 0 && len' = .un .len (.var x) && (tab.get et).isSome then
      match look o' a.th with
      | none => (bindV x .nil a).map fun a => { a with th := (o', .nil) :: a.th }
      | some .nil => some a
      | _ => none
    else none
  | _ => none

/-- The target's whole row. -/
def mSlw (tab : Tab) (Γ : Gam) (G : Grd) (nb : Nat) (obs : Obs) (o' : Nat) (et : TypeId) (l : Leaf) (a : Acc) : Option Acc :=
  match look o' obs, l with
  | some (.row _ _ (.var x)), .sl o et2 off len => mSlW tab Γ G nb obs o' et (.int 0) (.un .len (.var x)) o et2 off len a
  | some (.row _ _ (.var x)), .nil => mNil tab nb obs o' et (.int 0) (.un .len (.var x)) a
  | _, _ => none

mutual
def mLeaf (tab : Tab) (Γ : Gam) (G : Grd) (nb : Nat) (obs : Obs) : Nat → Leaf → Leaf → Acc → Option Acc
  | 0, _, _, _ => none
  | fuel + 1, l', l, a =>
    match l', normLeaf Γ G l with
    | .dead, _ => some a
    | .int k e', .int k2 e => if k = k2 then mExp nb e' e a else none
    | .bool e', .bool e => mExp nb e' e a
    | .str e', .str e => mExp nb e' e a
    | .nil, .nil => some a
    | .sl o' et off' len', .sl o et2 off len => mSlW tab Γ G nb obs o' et off' len' o et2 off len a
    | .sl o' et off' len', .nil => mNil tab nb obs o' et off' len' a
    | .pb o' j', .pb o j => if j' = j then mBox tab Γ G nb obs fuel o' o a else none
    | .pe o' et i' j', .pe o et2 i j => if et = et2 && j' = j then
        match look o' a.th, rowOf Γ G o with
        | some (.sl o2 off2 len2), some (_, _, d, _) => if o2 = o && isWhole d off2 len2 then mExp nb i' i a else none
        | _, _ => none
      else none
    | .slw o' et, l => mSlw tab Γ G nb obs o' et l a
    | .fn f caps', .fn f2 caps => if f = f2 && caps'.length = caps.length then mCaps tab Γ G nb obs fuel caps' caps a else none
    | _, _ => none
def mBox (tab : Tab) (Γ : Gam) (G : Grd) (nb : Nat) (obs : Obs) : Nat → Nat → Nat → Acc → Option Acc
  | 0, _, _, _ => none
  | fuel + 1, o', o, a =>
    match look o' a.th with
    | some (.bx o2) => if o2 = o then some a else none
    | some _ => none
    | none =>
      match look o' obs, Γ.obj o with
      | some (.box rw cells'), some (g, .box rwc cells) => if impl G g && (!rw || rwc) && cells'.length = cells.length then
          match mLeaves tab Γ G nb obs fuel cells' cells a with
          | some a => match look o' a.th with
            | none => some { a with th := (o', .bx o) :: a.th }
            | some _ => none
          | none => none
        else none
      | _, _ => none
def mLeaves (tab : Tab) (Γ : Gam) (G : Grd) (nb : Nat) (obs : Obs) : Nat → List Leaf → List Leaf → Acc → Option Acc
  | 0, _, _, _ => none
  | fuel + 1, [], [], a => some a
  | fuel + 1, l' :: ls', l :: ls, a => match mLeaf tab Γ G nb obs fuel l' l a with
    | some a => mLeaves tab Γ G nb obs fuel ls' ls a
    | none => none
  | _, _, _, _ => none
def mCaps (tab : Tab) (Γ : Gam) (G : Grd) (nb : Nat) (obs : Obs) : Nat → List Nat → List Nat → Acc → Option Acc
  | 0, _, _, _ => none
  | fuel + 1, [], [], a => some a
  | fuel + 1, c' :: cs', c :: cs, a => match mBox tab Γ G nb obs fuel c' c a with
    | some a => mCaps tab Γ G nb obs fuel cs' cs a
    | none => none
  | _, _, _, _ => none
end

structure Acc.le (a b : Acc) : Prop where
  th : ∀ o r, look o a.th = some r → look o b.th = some r
  sg : ∀ x e, look x a.sg = some e → look x b.sg = some e
theorem Acc.le.refl (a : Acc) : a.le a := ⟨fun _ _ => id, fun _ _ => id⟩
theorem Acc.le.trans {a b c : Acc} (h : a.le b) (k : b.le c) : a.le c := ⟨fun o r x => k.th o r (h.th o r x), fun o r x => k.sg o r (h.sg o r x)⟩
theorem look_cons_ne {α : Type} {k k' : Nat} {x : α} {l : List (Nat × α)} (h : k' ≠ k) : look k ((k', x) :: l) = look k l := by
  simp only [look]; rw [if_neg (by simpa using h)]
theorem look_cons_self {α : Type} {k : Nat} {x : α} {l : List (Nat × α)} : look k ((k, x) :: l) = some x := by simp [look]

section
variable {tab : Tab} {Γ : Gam} {ρ ρ' : Env} {tm : Array Value} {w w' : World} {C : Ctx} {kn : Kn} {Wr : CS} {w0 : World} {P : Program} {G : Grd} {nb : Nat} {obs : Obs}

theorem bindV_spec {x : Nat} {e : Exp} {a b : Acc} (h : bindV x e a = some b) : a.le b ∧ b.th = a.th ∧ look x b.sg = some e := by
  unfold bindV at h
  split at h
  · rename_i e' he
    split at h
    · rename_i hh; subst hh; cases h; exact ⟨Acc.le.refl _, rfl, he⟩
    · cases h
  · rename_i hn
    cases h
    refine ⟨⟨fun _ _ => id, fun y e' hy => ?_⟩, rfl, look_cons_self⟩
    by_cases hxy : x = y
    · subst hxy; rw [hn] at hy; cases hy
    · rw [look_cons_ne hxy]; exact hy

theorem mExp_spec {e' e : Exp} {a b : Acc} (h : mExp nb e' e a = some b) : a.le b ∧ b.th = a.th ∧ ∀ ρ ρ' : Env, (∀ x e, look x b.sg = some e → ρ' x = den ρ e) → (∀ x, x < nb → ρ' x = ρ x) → den ρ' e' = den ρ e := by
  unfold mExp at h
  split at h
  · rename_i x
    split at h
    · obtain ⟨h1, h2, h3⟩ := bindV_spec h
      exact ⟨h1, h2, fun ρ ρ' hs _ => hs x e h3⟩
    · rename_i hle
      split at h
      · rename_i hh; cases h; subst hh
        exact ⟨Acc.le.refl _, rfl, fun ρ ρ' _ ha => ha x (by have : ¬ nb ≤ x := fun hx => hle (Nat.ble_eq_true_of_le hx); omega)⟩
      · cases h
  · split at h
    · rename_i hh
      simp only [Bool.and_eq_true, decide_eq_true_eq] at hh
      obtain ⟨h1, h2⟩ := hh
      cases h; subst h1
      exact ⟨Acc.le.refl _, rfl, fun ρ ρ' _ ha => den_agree (n := nb) (fun x hx => ha x hx) _ h2⟩
    · cases h

/-- What a bound object of the target is worth. -/
def Bound (tab : Tab) (Γ : Gam) (ρ ρ' : Env) (w : World) (C C' : Ctx) (k' : Nat → Prop) (o' : Nat) (ob' : Obj) : Ref → Prop
  | .sl o off len => ∃ (dp : Bool) (et : TypeId) (x : Nat) (ti : TI) (rows : List T) (m n c : Nat) (root : Nat) (gr : Grd) (obr : Obj) (d : Exp),
      ob' = .row dp et (.var x) ∧ tab.get et = some ti ∧ ρ' x = .list rows ∧ DRel tab w dp (.sl et) (.slice (C'.A o') (C'.N o') (C'.K o')) (.list rows) (C'.F o') ∧
      Γ.obj root = some (gr, obr) ∧ holdsG ρ gr ∧ obr.isView = false ∧ Sub (C'.F o') (C.F root) ∧ (root = o ∨ ∃ g pd i j et2 d2, Γ.obj o = some (g, .view root pd i j et2 d2)) ∧
      (dp = true → root = o ∧ obr.owned = true) ∧ den ρ off = .int m ∧ den ρ len = .int n ∧ C'.N o' = n ∧ C'.K o' = c ∧ m + n ≤ C.N o ∧ n ≤ c ∧ m + c = C.K o ∧
      (c = 0 ∨ ∃ b base, C.A o = some ⟨b, base, none⟩ ∧ C'.A o' = some ⟨b, base + m * tab.sz et, none⟩) ∧
      (∃ dp2 vw, rowOf Γ G o = some (dp2, et, d, vw)) ∧ (isWhole d off len = true → C'.A o' = C.A o ∧ C'.N o' = C.N o ∧ C'.K o' = C.K o)
  | .nil => ∃ (dp : Bool) (et : TypeId) (x : Nat), ob' = .row dp et (.var x) ∧ ρ' x = .list [] ∧ DRel tab w dp (.sl et) (.slice (C'.A o') (C'.N o') (C'.K o')) (.list []) (C'.F o') ∧ C'.F o' = Emp ∧ C'.A o' = none ∧ C'.N o' = 0 ∧ C'.K o' = 0
  | .bx o => ∃ rw rwc cells' cells g, ob' = .box rw cells' ∧ Γ.obj o = some (g, .box rwc cells) ∧ holdsG ρ g ∧ (rw = true → rwc = true) ∧ (C'.A o' = C.A o ∧ C'.N o' = C.N o ∧ C'.K o' = C.K o) ∧ C'.F o' = C.F o ∧
      ObRel tab C' k' ρ' Γ w o' (.box rw cells')


def kOf (a : Acc) : Nat → Prop := fun o => ∃ r, look o a.th = some r
def Inv (tab : Tab) (Γ : Gam) (G : Grd) (ρ ρ' : Env) (w : World) (C : Ctx) (obs : Obs) (a : Acc) (C' : Ctx) : Prop :=
  ∀ o' r, look o' a.th = some r → ∃ ob', look o' obs = some ob' ∧ Bound tab Γ ρ ρ' w (G := G) C C' (kOf a) o' ob' r
/-- The contexts agree on what is bound. -/
def Alike (a : Acc) (C' C'' : Ctx) : Prop := ∀ o r, look o a.th = some r → C''.A o = C'.A o ∧ C''.N o = C'.N o ∧ C''.K o = C'.K o ∧ C''.F o = C'.F o
theorem Alike.refl (a : Acc) (C' : Ctx) : Alike a C' C' := fun _ _ _ => ⟨rfl, rfl, rfl, rfl⟩
theorem Alike.trans {a b : Acc} {C1 C2 C3 : Ctx} (h : Alike a C1 C2) (hle : a.le b) (k : Alike b C2 C3) : Alike a C1 C3 := fun o r x => by
  obtain ⟨h1, h2, h3, h4⟩ := h o r x
  obtain ⟨k1, k2, k3, k4⟩ := k o r (hle.th o r x)
  exact ⟨k1.trans h1, k2.trans h2, k3.trans h3, k4.trans h4⟩

theorem kOf.mono {a b : Acc} (h : a.le b) : ∀ o, kOf a o → kOf b o := fun o ⟨r, hr⟩ => ⟨r, h.th o r hr⟩
theorem leaf_alike {a b : Acc} {C1 C2 : Ctx} {l : Leaf} {v : Value} (h : LeafRel tab C1 (kOf a) ρ l v) (hle : a.le b) (hal : Alike a C1 C2) : LeafRel tab C2 (kOf b) ρ l v :=
  h.mono (kOf.mono hle) fun o ⟨r, hr⟩ => ⟨(hal o r hr).1, (hal o r hr).2.1, (hal o r hr).2.2.1⟩

theorem Bound.mono {a b : Acc} {C1 C2 : Ctx} {o' : Nat} {ob' : Obj} {r : Ref} (hb : Bound tab Γ ρ ρ' w (G := G) C C1 (kOf a) o' ob' r) (hr : look o' a.th = some r) (hle : a.le b) (hal : Alike a C1 C2) : Bound tab Γ ρ ρ' w (G := G) C C2 (kOf b) o' ob' r := by
  obtain ⟨e1, e2, e3, e4⟩ := hal o' r hr
  cases r with
  | sl o off len =>
    obtain ⟨dp, et, x, ti, rows, m, n, c, root, gr, obr, d, h1⟩ := hb
    refine ⟨dp, et, x, ti, rows, m, n, c, root, gr, obr, d, ?_⟩
    rw [e1, e2, e3, e4]; exact h1
  | nil =>
    obtain ⟨dp, et, x, h1⟩ := hb
    refine ⟨dp, et, x, ?_⟩
    rw [e1, e2, e3, e4]; exact h1
  | bx o =>
    obtain ⟨rw', rwc, cells', cells, g, h1, h2, h3, h4, h5, h6, h7⟩ := hb
    refine ⟨rw', rwc, cells', cells, g, h1, h2, h3, h4, by rw [e1, e2, e3]; exact h5, by rw [e4]; exact h6, ?_⟩
    exact h7.mono (kOf.mono hle) ⟨_, hr⟩ (fun o ⟨r, hr⟩ => ⟨(hal o r hr).1, (hal o r hr).2.1, (hal o r hr).2.2.1⟩) e4 fun _ _ _ _ _ _ he => by cases he

theorem Inv.mono {a b : Acc} {C1 C2 : Ctx} (h : Inv tab Γ G ρ ρ' w C obs a C1) (hth : b.th = a.th) (hle : a.le b) (hal : Alike a C1 C2) : Inv tab Γ G ρ ρ' w C obs b C2 := by
  intro o' r hr
  rw [hth] at hr
  obtain ⟨ob', h1, h2⟩ := h o' r hr
  exact ⟨ob', h1, h2.mono hr hle hal⟩

/-- What is owed of an accumulation. -/
structure Step (tab : Tab) (Γ : Gam) (G : Grd) (ρ ρ' : Env) (w : World) (C : Ctx) (obs : Obs) (a b : Acc) (C' C'' : Ctx) : Prop where
  le : a.le b
  alike : Alike a C' C''
  inv : Inv tab Γ G ρ ρ' w C obs b C''
theorem Step.trans {a b c : Acc} {C1 C2 C3 : Ctx} (h : Step tab Γ G ρ ρ' w C obs a b C1 C2) (k : Step tab Γ G ρ ρ' w C obs b c C2 C3) : Step tab Γ G ρ ρ' w C obs a c C1 C3 :=
  ⟨h.le.trans k.le, h.alike.trans h.le k.alike, k.inv⟩
theorem Step.same {a b : Acc} {C1 : Ctx} (h : Inv tab Γ G ρ ρ' w C obs a C1) (hth : b.th = a.th) (hle : a.le b) : Step tab Γ G ρ ρ' w C obs a b C1 C1 :=
  ⟨hle, Alike.refl _ _, h.mono hth hle (Alike.refl _ _)⟩

theorem Inv.add {a b : Acc} {C1 : Ctx} (h : Inv tab Γ G ρ ρ' w C obs a C1) {o' : Nat} {r : Ref} (hn : look o' a.th = none) (hle : a.le b) (hth : b.th = (o', r) :: a.th) {A : Option Addr} {N K : Nat} {F : CS} {ob' : Obj} (ho : look o' obs = some ob')
    (hb : Bound tab Γ ρ ρ' w (G := G) C (C1.set o' A N K F) (kOf b) o' ob' r) : Step tab Γ G ρ ρ' w C obs a b C1 (C1.set o' A N K F) := by
  have hne : ∀ x r, look x a.th = some r → x ≠ o' := fun x r hx e => by subst e; rw [hn] at hx; cases hx
  have hal : Alike a C1 (C1.set o' A N K F) := fun x r hx => Ctx.set_ne (hne x r hx)
  refine ⟨hle, hal, fun x r2 hx => ?_⟩
  rw [hth] at hx
  by_cases e : o' = x
  · subst e
    rw [look_cons_self] at hx; cases hx
    exact ⟨ob', ho, hb⟩
  · rw [look_cons_ne e] at hx
    obtain ⟨ob2, h1, h2⟩ := h x r2 hx
    exact ⟨ob2, h1, h2.mono hx hle hal⟩

theorem extE_whole {d off len : Exp} (h : isWhole d off len = true) : extE d off len = d := by
  unfold isWhole at h; unfold extE; rw [if_pos h]

theorem rowOf_root {o : Nat} {dp : Bool} {et : TypeId} {d : Exp} {vw : Bool} (h : Rel tab Γ ρ tm w C kn Wr w0) (hG : holdsG ρ G) (hr : rowOf Γ G o = some (dp, et, d, vw)) :
    ∃ rows F' root gr obr, den ρ d = .list rows ∧ DRel tab w dp (.sl et) (.slice (C.A o) (C.N o) (C.K o)) (.list rows) F' ∧ Γ.obj root = some (gr, obr) ∧ holdsG ρ gr ∧ obr.isView = false ∧ Sub F' (C.F root) ∧
      (root = o ∨ ∃ g pd i j et2 d2, Γ.obj o = some (g, .view root pd i j et2 d2)) ∧ (vw = false → root = o ∧ obr = .row dp et d) := by
  have hs := rowOf_sound h hG hr
  obtain ⟨rows, F', root, gr, obr, h1, h2, h3, h4, h5, h6, h7⟩ := hs
  cases vw with
  | false => exact ⟨rows, F', root, gr, obr, h1, h2, h3, h4, h5, h6, .inl (h7 rfl).1, h7⟩
  | true =>
    -- a view: its parent is the root
    unfold rowOf at hr
    split at hr
    · split at hr
      · cases hr
      · cases hr
    · rename_i g par pd i j et' d' ho
      split at hr
      · rename_i hi
        simp only [Bool.and_eq_true, Bool.not_eq_true'] at hi
        obtain ⟨hi, hnh⟩ := hi
        split at hr
        · rename_i gp pet pd' hp
          split at hr
          · rename_i hc
            cases hr
            simp only [Bool.and_eq_true, beq_iff_eq] at hc
            obtain ⟨hc1, hc2⟩ := hc
            subst hc2
            have hgp := impl_sound hc1 hG
            obtain ⟨m, b, base, rows2, a1, a2, a3, a4, a5, ⟨ti, t1, t2⟩, a8⟩ := (h.obs o g _ ho).2.2 (impl_sound hi hG) gp pet hp hgp
            obtain ⟨rs, a5, a6, a7⟩ := a5.resolve_left (fun ⟨o0, c, _⟩ => by rw [c] at hnh; cases hnh)
            obtain ⟨rows', r1, r2⟩ := (h.obs par gp _ hp).2.2 hgp
            rw [a4] at r1; cases r1
            rw [a3] at r2
            have hsz : tab.sz pet = ti.size := by simp [Tab.sz, t1]
            obtain ⟨v, F2, g1, g2, g3⟩ := r2.get t1 a2 t2
            rw [hsz] at a7 a8
            rw [g1] at a8; cases a8
            rw [a7] at g2
            rw [h1] at a5; cases a5
            exact ⟨rows, F2, par, gp, _, h1, g2, hp, hgp, rfl, g3, .inr ⟨g, pd, i, j, et, d, ho⟩, fun h => by cases h⟩
          · cases hr
        · cases hr
      · cases hr
    · cases hr

theorem mSl_sound (hT : TabOk P tab) (h : Rel tab Γ ρ tm w C kn Wr w0) (hG : holdsG ρ G) (hnb : ∀ x, x < nb → ρ' x = ρ x) {o' : Nat} {et : TypeId} {off' len' : Exp} {o : Nat} {et2 : TypeId} {off len : Exp} {a b : Acc} {v : Value} {C' : Ctx}
    (hm : mSl tab Γ G nb obs o' et off' len' o et2 off len a = some b) (hl : LeafRel tab C kn.o ρ (.sl o et2 off len) v) (hinv : Inv tab Γ G ρ ρ' w C obs a C') (hs : ∀ x e, look x b.sg = some e → ρ' x = den ρ e) :
    ∃ C'', Step tab Γ G ρ ρ' w C obs a b C' C'' ∧ LeafRel tab C'' (kOf b) ρ' (.sl o' et off' len') v := by
  unfold mSl at hm
  split at hm
  case isFalse => cases hm
  rename_i he
  subst he
  split at hm
  case h_2 => cases hm
  rename_i dp et' x hobs
  split at hm
  case isFalse => cases hm
  rename_i hc
  subst hc
  split at hm
  case h_2 => cases hm
  rename_i dps et3 d vw te hrow hte
  split at hm
  case isFalse => cases hm
  rename_i he3
  subst he3
  obtain ⟨rows, F1, root, gr, obr, r1, r2, r3, r4, r5, r6, r7, r8⟩ := rowOf_root h hG hrow
  split at hm
  · -- the first time
    rename_i hnone
    split at hm
    case isFalse => cases hm
    rename_i hc
    simp only [Bool.and_eq_true, decide_eq_true_eq, Bool.or_eq_true, Bool.not_eq_true'] at hc
    obtain ⟨⟨rfl, rfl⟩, hown⟩ := hc
    cases hbv : mExp nb (.var x) (extE d off len) a with
    | none => rw [hbv] at hm; cases hm
    | some a1 =>
      rw [hbv] at hm; cases hm
      obtain ⟨b1, b2, b3⟩ := mExp_spec hbv
      have hx : ρ' x = den ρ (extE d off len) := b3 ρ ρ' hs hnb
      obtain ⟨m, n, av, c, F', e1, e2, e3, e4, e5, e6, e7⟩ := hl.part hte r2
      obtain ⟨hk, m', n', a', c', l1, l2, l3, l4, l5, l6, l7⟩ := hl
      rw [e1] at l1; rw [e2] at l2; cases l1; cases l2
      rw [e3] at l3; cases l3
      have hdat : ρ' x = .list ((rows.take (m + n)).drop m) := by rw [hx]; exact extE_den r1 e1 e2 e4
      have hle : a.le { a1 with th := (o', .sl o off len) :: a1.th } := by
        refine ⟨fun y r hy => ?_, b1.sg⟩
        have : o' ≠ y := fun e => by subst e; rw [hnone] at hy; cases hy
        show look y ((o', Ref.sl o off len) :: a1.th) = some r
        rw [look_cons_ne this, b2]; exact hy
      have hth : ({ a1 with th := (o', .sl o off len) :: a1.th } : Acc).th = (o', .sl o off len) :: a.th := by show _ :: a1.th = _; rw [b2]
      -- the header, the whole row's or the part's
      by_cases hw : isWhole d off len = true
      · have hw' := hw
        simp only [isWhole, Bool.and_eq_true, beq_iff_eq] at hw'
        obtain ⟨w1, w2⟩ := hw'
        subst w1
        have hm0 : m = 0 := by simp [den] at e1; omega
        subst hm0
        subst w2
        have hn : n = rows.length := by simp [den, U.den, r1, T.len] at e2; omega
        have hN : C.N o = n := by rw [hn]; exact r2.header.1.symm
        have hK : C.K o = c := by omega
        have hrows : (rows.take (0 + n)).drop 0 = rows := by rw [hn]; simp
        obtain ⟨F2, f1, f2⟩ : ∃ F2, Sub F2 F1 ∧ DRel tab w dp (.sl et3) (.slice (C.A o) (C.N o) (C.K o)) (.list rows) F2 := by
          cases dp with
          | false => obtain ⟨F2, f1, f2⟩ := r2.share; exact ⟨F2, f1, f2⟩
          | true =>
            have : dps = true := by rcases hown with h | h; cases h; exact h.1
            subst this
            exact ⟨F1, Sub.refl _, r2⟩
        refine ⟨C'.set o' (C.A o) (C.N o) (C.K o) F2, hinv.add hnone hle hth hobs ?_, ?_⟩
        · refine ⟨dp, et3, x, te, rows, 0, n, c, root, gr, obr, d, rfl, hte, by rw [hdat, hrows], ?_, r3, r4, r5, ?_, r7, fun hd => ?_, e1, e2, ?_, ?_, by omega, l5, by omega, ?_, ⟨dps, vw, hrow⟩, fun _ => ?_⟩
          · rw [Ctx.set_self.1, Ctx.set_self.2.1, Ctx.set_self.2.2.1, Ctx.set_self.2.2.2]; exact f2
          · rw [Ctx.set_self.2.2.2]; exact f1.trans r6
          · have h2 : dps = true ∧ vw = false := by rcases hown with h | h; rw [hd] at h; cases h; exact h
            obtain ⟨x1, x2⟩ := r8 h2.2
            exact ⟨x1, by rw [x2]; exact h2.1⟩
          · rw [Ctx.set_self.2.1]; exact hN
          · rw [Ctx.set_self.2.2.1]; exact hK
          · rcases l7 with l7 | ⟨b, base, l7, _⟩
            · exact .inl l7
            · exact .inr ⟨b, base, l7, by rw [Ctx.set_self.1, l7]; simp⟩
          · exact ⟨Ctx.set_self.1, Ctx.set_self.2.1, Ctx.set_self.2.2.1⟩
        · refine ⟨⟨_, by show look o' (_ :: a1.th) = _; exact look_cons_self⟩, 0, n, av, c, rfl, ?_, e3, ?_, l5, ?_, ?_⟩
          · simp only [den, U.den, hdat, hrows, T.len]; rw [hn]
          · rw [Ctx.set_self.2.1]; omega
          · rw [Ctx.set_self.2.2.1]; omega
          · rcases l7 with l7 | ⟨b, base, l7, l8⟩
            · exact .inl l7
            · exact .inr ⟨b, base, by rw [Ctx.set_self.1]; exact l7, by rw [l8]⟩
      · obtain ⟨F2, f1, f2⟩ : ∃ F2, Sub F2 F' ∧ DRel tab w dp (.sl et3) (.slice av n c) (.list ((rows.take (m + n)).drop m)) F2 := by
          cases dp with
          | false => obtain ⟨F2, f1, f2⟩ := e6.share; exact ⟨F2, f1, f2⟩
          | true =>
            have : dps = true := by rcases hown with h | h; cases h; exact h.1
            subst this
            exact ⟨F', Sub.refl _, e6⟩
        refine ⟨C'.set o' av n c F2, hinv.add hnone hle hth hobs ?_, ?_⟩
        · refine ⟨dp, et3, x, te, _, m, n, c, root, gr, obr, d, rfl, hte, hdat, ?_, r3, r4, r5, ?_, r7, fun hd => ?_, e1, e2, ?_, ?_, l4, l5, l6, ?_, ⟨dps, vw, hrow⟩, fun hh => absurd hh hw⟩
          · rw [Ctx.set_self.1, Ctx.set_self.2.1, Ctx.set_self.2.2.1, Ctx.set_self.2.2.2]; exact f2
          · rw [Ctx.set_self.2.2.2]; exact (f1.trans e5).trans r6
          · have h2 : dps = true ∧ vw = false := by rcases hown with h | h; rw [hd] at h; cases h; exact h
            obtain ⟨x1, x2⟩ := r8 h2.2
            exact ⟨x1, by rw [x2]; exact h2.1⟩
          · exact Ctx.set_self.2.1
          · exact Ctx.set_self.2.2.1
          · rcases l7 with l7 | ⟨b, base, l7, l8⟩
            · exact .inl l7
            · exact .inr ⟨b, base, l7, by rw [Ctx.set_self.1]; exact l8⟩
        · refine ⟨⟨_, by show look o' (_ :: a1.th) = _; exact look_cons_self⟩, 0, n, av, c, rfl, ?_, e3, ?_, l5, ?_, ?_⟩
          · simp only [den, U.den, hdat, T.len]; congr 1; simp; omega
          · rw [Ctx.set_self.2.1]; omega
          · rw [Ctx.set_self.2.2.1]; omega
          · rcases l7 with l7 | ⟨b, base, l7, l8⟩
            · exact .inl l7
            · exact .inr ⟨b, base + m * tab.sz et3, by rw [Ctx.set_self.1]; exact l8, by rw [l8]; simp⟩
  · -- bound already
    rename_i o2 off2 len2 hsome
    split at hm
    case isFalse => cases hm
    rename_i ho2
    subst ho2
    obtain ⟨ob', q1, q2⟩ := hinv o' _ hsome
    rw [hobs] at q1; cases q1
    obtain ⟨dp', et', x', ti', rows', m2, n2, c2, root', gr', obr', d', z1, z2, z3, z4, z5, z6, z7, z8, z9, z10, z11, z12, z13, z14, z15, z16, z17, z18, ⟨dp3, vw3, z19⟩, z20⟩ := q2
    cases z1
    rw [hrow] at z19; cases z19
    split at hm
    · rename_i hc
      simp only [Bool.and_eq_true, decide_eq_true_eq] at hc
      obtain ⟨⟨⟨rfl, rfl⟩, rfl⟩, rfl⟩ := hc
      cases hm
      refine ⟨C', Step.same hinv rfl (Acc.le.refl _), ?_⟩
      obtain ⟨hk, m, n, av, c, l1, l2, l3, l4, l5, l6, l7⟩ := hl
      rw [z11] at l1; rw [z12] at l2
      have e1 : m2 = m := by have := T.int.inj l1; omega
      have e2 : n2 = n := by have := T.int.inj l2; omega
      subst e1; subst e2
      refine ⟨⟨_, hsome⟩, 0, n2, av, c, rfl, ?_, l3, by omega, l5, by omega, ?_⟩
      · simp only [den, U.den, z3, T.len]; congr 1; rw [z4.header.1, z13]
      · rcases l7 with l7 | ⟨b, base, l7, l8⟩
        · exact .inl l7
        · rcases z18 with z18 | ⟨b', base', z18, z18'⟩
          · exact .inl (by omega)
          · rw [l7] at z18; cases z18
            exact .inr ⟨b, _, z18', by rw [l8]; simp⟩
    · split at hm
      · rename_i hw
        cases hb1 : mExp nb off' off a with
        | none => rw [hb1] at hm; cases hm
        | some a1 =>
          rw [hb1] at hm
          simp only [Option.bind_some] at hm
          obtain ⟨p1, p2, p3⟩ := mExp_spec hb1
          obtain ⟨p4, p5, p6⟩ := mExp_spec hm
          obtain ⟨w1, w2, w3⟩ := z20 hw
          have hs1 : ∀ x e, look x a1.sg = some e → ρ' x = den ρ e := fun x e hx => hs x e (p4.sg x e hx)
          refine ⟨C', Step.same hinv (p5.trans p2) (p1.trans p4), ?_⟩
          obtain ⟨hk, m, n, av, c, l1, l2, l3, l4, l5, l6, l7⟩ := hl
          refine ⟨⟨_, (p1.trans p4).th _ _ hsome⟩, m, n, av, c, by rw [p3 ρ ρ' hs1 hnb]; exact l1, by rw [p6 ρ ρ' hs hnb]; exact l2, l3, by rw [w2]; exact l4, l5, by rw [w3]; exact l6, ?_⟩
          rw [w1]; exact l7
      · cases hm
  · cases hm

theorem mSlW_sound (hT : TabOk P tab) (h : Rel tab Γ ρ tm w C kn Wr w0) (hG : holdsG ρ G) (hnb : ∀ x, x < nb → ρ' x = ρ x) {o' : Nat} {et : TypeId} {off' len' : Exp} {o : Nat} {et2 : TypeId} {off len : Exp} {a b : Acc} {v : Value} {C' : Ctx}
    (hm : mSlW tab Γ G nb obs o' et off' len' o et2 off len a = some b) (hl : LeafRel tab C kn.o ρ (.sl o et2 off len) v) (hinv : Inv tab Γ G ρ ρ' w C obs a C') (hs : ∀ x e, look x b.sg = some e → ρ' x = den ρ e)
    (hle : ∀ {off' len' off len : Exp} {et2 : TypeId} {a b : Acc}, mSl tab Γ G nb obs o' et off' len' o et2 off len a = some b → a.le b) :
    ∃ C'', Step tab Γ G ρ ρ' w C obs a b C' C'' ∧ LeafRel tab C'' (kOf b) ρ' (.sl o' et off' len') v := by
  unfold mSlW at hm
  split at hm
  · split at hm
    · exact mSl_sound hT h hG hnb hm hl hinv hs
    · split at hm
      case h_2 => cases hm
      rename_i dps et3 d vw hrow
      split at hm
      case h_2 => cases hm
      rename_i a1 ha1
      obtain ⟨rows, F1, root, gr, obr, r1, r2, _⟩ := rowOf_root h hG hrow
      obtain ⟨x1, x2, x3⟩ := r2.header
      have hk : kn.o o := hl.1
      obtain ⟨C1, s1, s2⟩ := mSl_sound (v := .slice (C.A o) (C.N o) (C.K o)) hT h hG hnb ha1 ⟨hk, 0, C.N o, _, _, rfl, by simp only [den, U.den, r1, T.len, x1], rfl, by omega, x2, by omega, by
        rcases x3 with h0 | ⟨bb, off, h0⟩
        · exact .inl h0
        · exact .inr ⟨bb, off, h0, by rw [h0]; simp⟩⟩ hinv (fun x e hx => hs x e ((hle hm).sg x e hx))
      obtain ⟨C2, t1, t2⟩ := mSl_sound hT h hG hnb hm hl s1.inv hs
      exact ⟨C2, s1.trans t1, t2⟩
  · exact mSl_sound hT h hG hnb hm hl hinv hs

theorem mNil_sound (hT : TabOk P tab) {o' : Nat} {et : TypeId} {off' len' : Exp} {a b : Acc} {v : Value} {C' : Ctx} {k : Nat → Prop}
    (hm : mNil tab nb obs o' et off' len' a = some b) (hl : LeafRel tab C k ρ .nil v) (hinv : Inv tab Γ G ρ ρ' w C obs a C') (hs : ∀ x e, look x b.sg = some e → ρ' x = den ρ e) :
    ∃ C'', Step tab Γ G ρ ρ' w C obs a b C' C'' ∧ LeafRel tab C'' (kOf b) ρ' (.sl o' et off' len') v := by
  unfold mNil at hm
  cases hl
  split at hm
  case h_2 => cases hm
  rename_i dp et' x hobs
  split at hm
  case isFalse => cases hm
  rename_i hc
  simp only [Bool.and_eq_true, decide_eq_true_eq] at hc
  obtain ⟨⟨⟨⟨rfl, hnbx⟩, rfl⟩, rfl⟩, hte⟩ := hc
  obtain ⟨te, hte⟩ := Option.isSome_iff_exists.1 hte
  split at hm
  · rename_i hnone
    cases hbv : bindV x .nil a with
    | none => rw [hbv] at hm; cases hm
    | some a1 =>
      rw [hbv] at hm; cases hm
      obtain ⟨b1, b2, b3⟩ := bindV_spec hbv
      have hx : ρ' x = .list [] := hs x _ b3
      have hle : a.le { a1 with th := (o', .nil) :: a1.th } := by
        refine ⟨fun y r hy => ?_, b1.sg⟩
        have : o' ≠ y := fun e => by subst e; rw [hnone] at hy; cases hy
        show look y ((o', Ref.nil) :: a1.th) = some r
        rw [look_cons_ne this, b2]; exact hy
      have hth : ({ a1 with th := (o', .nil) :: a1.th } : Acc).th = (o', .nil) :: a.th := by show _ :: a1.th = _; rw [b2]
      refine ⟨C'.set o' none 0 0 Emp, hinv.add hnone hle hth hobs ?_, ?_⟩
      · refine ⟨dp, et', x, rfl, hx, ?_, Ctx.set_self.2.2.2, Ctx.set_self.1, Ctx.set_self.2.1, Ctx.set_self.2.2.1⟩
        rw [Ctx.set_self.1, Ctx.set_self.2.1, Ctx.set_self.2.2.1, Ctx.set_self.2.2.2]
        exact DRel.nil hT hte
      · refine ⟨⟨_, by show look o' (_ :: a1.th) = _; exact look_cons_self⟩, 0, 0, none, 0, rfl, by simp [den, U.den, hx, T.len], rfl, by omega, by omega, ?_, .inl rfl⟩
        rw [Ctx.set_self.2.2.1]
  · rename_i hsome
    cases hm
    obtain ⟨ob', q1, q2⟩ := hinv o' _ hsome
    rw [hobs] at q1; cases q1
    obtain ⟨dp', et2, x', z1, z2, z3, z4, z5, z6, z7⟩ := q2
    cases z1
    refine ⟨C', Step.same hinv rfl (Acc.le.refl _), ⟨_, hsome⟩, 0, 0, none, 0, rfl, by simp [den, U.den, z2, T.len], rfl, by omega, by omega, ?_, .inl rfl⟩
    rw [z7]
  · cases hm

theorem mSl_le {o' : Nat} {et : TypeId} {off' len' : Exp} {o : Nat} {et2 : TypeId} {off len : Exp} {a b : Acc} (hm : mSl tab Γ G nb obs o' et off' len' o et2 off len a = some b) : a.le b := by
  unfold mSl at hm
  repeat' split at hm
  all_goals first
    | (cases hm; done)
    | (cases hm; exact Acc.le.refl _)
    | skip
  · rename_i hnone _
    cases hbv : mExp nb (.var _) (extE _ off len) a with
    | none => rw [hbv] at hm; cases hm
    | some a1 =>
      rw [hbv] at hm; cases hm
      obtain ⟨b1, b2, b3⟩ := mExp_spec hbv
      refine ⟨fun y r hy => ?_, b1.sg⟩
      have : o' ≠ y := fun e => by subst e; rw [hnone] at hy; cases hy
      show look y ((o', Ref.sl o off len) :: a1.th) = some r
      rw [look_cons_ne this, b2]; exact hy
  · cases hb1 : mExp nb off' off a with
    | none => rw [hb1] at hm; cases hm
    | some a1 =>
      rw [hb1] at hm
      simp only [Option.bind_some] at hm
      exact (mExp_spec hb1).1.trans (mExp_spec hm).1
theorem mSlW_le {o' : Nat} {et : TypeId} {off' len' : Exp} {o : Nat} {et2 : TypeId} {off len : Exp} {a b : Acc} (hm : mSlW tab Γ G nb obs o' et off' len' o et2 off len a = some b) : a.le b := by
  unfold mSlW at hm
  split at hm
  · split at hm
    · exact mSl_le hm
    · split at hm
      case h_2 => cases hm
      split at hm
      case h_2 => cases hm
      rename_i a1 ha1
      exact (mSl_le ha1).trans (mSl_le hm)
  · exact mSl_le hm
theorem mNil_le {o' : Nat} {et : TypeId} {off' len' : Exp} {a b : Acc} (hm : mNil tab nb obs o' et off' len' a = some b) : a.le b := by
  unfold mNil at hm
  repeat' split at hm
  all_goals first
    | (cases hm; done)
    | (cases hm; exact Acc.le.refl _)
    | skip
  rename_i hnone
  cases hbv : bindV _ .nil a with
  | none => rw [hbv] at hm; cases hm
  | some a1 =>
    rw [hbv] at hm; cases hm
    obtain ⟨b1, b2, b3⟩ := bindV_spec hbv
    refine ⟨fun y r hy => ?_, b1.sg⟩
    have : o' ≠ y := fun e => by subst e; rw [hnone] at hy; cases hy
    show look y ((o', Ref.nil) :: a1.th) = some r
    rw [look_cons_ne this, b2]; exact hy

theorem mSlw_le {o' : Nat} {et : TypeId} {l : Leaf} {a b : Acc} (hm : mSlw tab Γ G nb obs o' et l a = some b) : a.le b := by
  unfold mSlw at hm
  split at hm
  · exact mSlW_le hm
  · exact mNil_le hm
  · cases hm
theorem mSlw_sound (hT : TabOk P tab) (h : Rel tab Γ ρ tm w C kn Wr w0) (hG : holdsG ρ G) (hnb : ∀ x, x < nb → ρ' x = ρ x) {o' : Nat} {et : TypeId} {l : Leaf} {a b : Acc} {v : Value} {C' : Ctx}
    (hm : mSlw tab Γ G nb obs o' et l a = some b) (hl : LeafRel tab C kn.o ρ l v) (hinv : Inv tab Γ G ρ ρ' w C obs a C') (hs : ∀ x e, look x b.sg = some e → ρ' x = den ρ e) :
    ∃ C'', Step tab Γ G ρ ρ' w C obs a b C' C'' ∧ LeafRel tab C'' (kOf b) ρ' (.slw o' et) v := by
  have key : ∀ dp et0 x C'', look o' obs = some (.row dp et0 (.var x)) → Step tab Γ G ρ ρ' w C obs a b C' C'' → LeafRel tab C'' (kOf b) ρ' (.sl o' et (.int 0) (.un .len (.var x))) v → LeafRel tab C'' (kOf b) ρ' (.slw o' et) v := by
    intro dp et0 x C'' hob st hl2
    obtain ⟨⟨r, hr⟩, m, n, av, c, l1, l2, l3, l4, l5, l6, l7⟩ := hl2
    have hm0 : m = 0 := by have := T.int.inj l1; omega
    subst hm0
    obtain ⟨ob', q1, q2⟩ := st.inv _ _ hr
    rw [hob] at q1; cases q1
    have hN : n = C''.N o' := by
      cases r with
      | sl o off len =>
        obtain ⟨dp', et', x', ti', rows', m2, n2, c2, root', gr', obr', d', z1, z2, z3, z4, _⟩ := q2
        cases z1
        have h1 := z4.header.1
        simp only [den, U.den, z3, T.len] at l2
        have := T.int.inj l2
        omega
      | nil =>
        obtain ⟨dp', et', x', z1, z2, z3, _⟩ := q2
        cases z1
        have h1 := z3.header.1
        simp only [den, U.den, z2, T.len] at l2
        have := T.int.inj l2
        simp at h1
        omega
      | bx o =>
        obtain ⟨rw', rwc, cells', cells, g, z1, _⟩ := q2
        cases z1
    refine ⟨⟨_, hr⟩, av, by rw [l3, hN]; congr 1; omega, ?_⟩
    rcases l7 with l7 | ⟨b2, base, l7, l8⟩
    · exact .inl (by omega)
    · exact .inr ⟨b2, base, l7, by rw [l8]; simp⟩
  unfold mSlw at hm
  split at hm
  · rename_i dp et0 x o et2 off len hob
    obtain ⟨C'', s1, s2⟩ := mSlW_sound hT h hG hnb hm hl hinv hs mSl_le
    exact ⟨C'', s1, key _ _ _ _ hob s1 s2⟩
  · rename_i dp et0 x hob
    obtain ⟨C'', s1, s2⟩ := mNil_sound hT hm hl hinv hs
    exact ⟨C'', s1, key _ _ _ _ hob s1 s2⟩
  · cases hm

theorem m_le : ∀ fuel : Nat, (∀ l' l a b, mLeaf tab Γ G nb obs fuel l' l a = some b → a.le b) ∧ (∀ o' o a b, mBox tab Γ G nb obs fuel o' o a = some b → a.le b) ∧
    (∀ ls' ls a b, mLeaves tab Γ G nb obs fuel ls' ls a = some b → a.le b) ∧ (∀ cs' cs a b, mCaps tab Γ G nb obs fuel cs' cs a = some b → a.le b)
  | 0 => ⟨fun _ _ _ _ h => by simp [mLeaf] at h, fun _ _ _ _ h => by simp [mBox] at h, fun _ _ _ _ h => by simp [mLeaves] at h, fun _ _ _ _ h => by simp [mCaps] at h⟩
  | fuel + 1 => by
    obtain ⟨i1, i2, i3, i4⟩ := m_le fuel
    refine ⟨fun l' l a b hm => ?_, fun o' o a b hm => ?_, fun ls' ls a b hm => ?_, fun cs' cs a b hm => ?_⟩
    · unfold mLeaf at hm
      split at hm
      · cases hm; exact Acc.le.refl _
      · split at hm
        · exact (mExp_spec hm).1
        · cases hm
      · exact (mExp_spec hm).1
      · exact (mExp_spec hm).1
      · cases hm; exact Acc.le.refl _
      · exact mSlW_le hm
      · exact mNil_le hm
      · split at hm
        · exact i2 _ _ _ _ hm
        · cases hm
      · split at hm
        · split at hm
          · split at hm
            · exact (mExp_spec hm).1
            · cases hm
          · cases hm
        · cases hm
      · exact mSlw_le hm
      · split at hm
        · exact i4 _ _ _ _ hm
        · cases hm
      · cases hm
    · unfold mBox at hm
      split at hm
      · split at hm
        · cases hm; exact Acc.le.refl _
        · cases hm
      · cases hm
      · split at hm
        · split at hm
          · split at hm
            · rename_i a1 ha1
              split at hm
              · rename_i hn
                cases hm
                have h1 := i3 _ _ _ _ ha1
                refine ⟨fun y r hy => ?_, h1.sg⟩
                have hy' := h1.th y r hy
                have : o' ≠ y := fun e => by subst e; rw [hn] at hy'; cases hy'
                show look y ((o', Ref.bx o) :: a1.th) = some r
                rw [look_cons_ne this]; exact hy'
              · cases hm
            · cases hm
          · cases hm
        · cases hm
    · cases ls' with
      | nil => cases ls with
        | nil => simp only [mLeaves] at hm; cases hm; exact Acc.le.refl _
        | cons => simp [mLeaves] at hm
      | cons l' ls' => cases ls with
        | nil => simp [mLeaves] at hm
        | cons l ls =>
          simp only [mLeaves] at hm
          split at hm
          · rename_i a1 ha1
            exact (i1 _ _ _ _ ha1).trans (i3 _ _ _ _ hm)
          · cases hm
    · cases cs' with
      | nil => cases cs with
        | nil => simp only [mCaps] at hm; cases hm; exact Acc.le.refl _
        | cons => simp [mCaps] at hm
      | cons l' ls' => cases cs with
        | nil => simp [mCaps] at hm
        | cons l ls =>
          simp only [mCaps] at hm
          split at hm
          · rename_i a1 ha1
            exact (i2 _ _ _ _ ha1).trans (i4 _ _ _ _ hm)
          · cases hm

theorem m_sound (hT : TabOk P tab) (h : Rel tab Γ ρ tm w C kn Wr w0) (hG : holdsG ρ G) (hnb : ∀ x, x < nb → ρ' x = ρ x) : ∀ fuel : Nat,
    (∀ l' l a b v C', mLeaf tab Γ G nb obs fuel l' l a = some b → LeafRel tab C kn.o ρ l v → Inv tab Γ G ρ ρ' w C obs a C' → (∀ x e, look x b.sg = some e → ρ' x = den ρ e) →
      ∃ C'', Step tab Γ G ρ ρ' w C obs a b C' C'' ∧ LeafRel tab C'' (kOf b) ρ' l' v) ∧
    (∀ o' o a b C', mBox tab Γ G nb obs fuel o' o a = some b → Inv tab Γ G ρ ρ' w C obs a C' → (∀ x e, look x b.sg = some e → ρ' x = den ρ e) →
      ∃ C'', Step tab Γ G ρ ρ' w C obs a b C' C'' ∧ look o' b.th = some (.bx o)) ∧
    (∀ ls' ls a b C' (Vp : Nat → Value → Prop), mLeaves tab Γ G nb obs fuel ls' ls a = some b → (∀ (j : Nat) l, ls[j]? = some l → ∃ v, Vp j v ∧ LeafRel tab C kn.o ρ l v) → Inv tab Γ G ρ ρ' w C obs a C' → (∀ x e, look x b.sg = some e → ρ' x = den ρ e) →
      ∃ C'', Step tab Γ G ρ ρ' w C obs a b C' C'' ∧ ls'.length = ls.length ∧ ∀ (j : Nat) l', ls'[j]? = some l' → ∃ v, Vp j v ∧ LeafRel tab C'' (kOf b) ρ' l' v) ∧
    (∀ cs' cs a b C', mCaps tab Γ G nb obs fuel cs' cs a = some b → Inv tab Γ G ρ ρ' w C obs a C' → (∀ x e, look x b.sg = some e → ρ' x = den ρ e) →
      ∃ C'', Step tab Γ G ρ ρ' w C obs a b C' C'' ∧ ∀ (i : Nat) c', cs'[i]? = some c' → ∃ c, cs[i]? = some c ∧ look c' b.th = some (.bx c))
  | 0 => ⟨fun _ _ _ _ _ _ h => by simp [mLeaf] at h, fun _ _ _ _ _ h => by simp [mBox] at h, fun _ _ _ _ _ _ h => by simp [mLeaves] at h, fun _ _ _ _ _ h => by simp [mCaps] at h⟩
  | fuel + 1 => by
    obtain ⟨i1, i2, i3, i4⟩ := m_sound hT h hG hnb fuel
    obtain ⟨j1, j2, j3, j4⟩ := m_le (tab := tab) (Γ := Γ) (G := G) (nb := nb) (obs := obs) fuel
    refine ⟨fun l' l a b v C' hm hl hinv hs => ?_, fun o' o a b C' hm hinv hs => ?_, fun ls' ls a b C' Vp hm hl hinv hs => ?_, fun cs' cs a b C' hm hinv hs => ?_⟩
    · replace hl := normLeaf_sound h hG hl
      unfold mLeaf at hm
      generalize normLeaf Γ G l = l at hm hl
      split at hm
      · cases hm; exact ⟨C', Step.same hinv rfl (Acc.le.refl _), trivial⟩
      · split at hm
        · rename_i hk; subst hk
          obtain ⟨p1, p2, p3⟩ := mExp_spec hm
          obtain ⟨n, h1, h2⟩ := hl
          exact ⟨C', Step.same hinv p2 p1, n, by rw [p3 ρ ρ' hs hnb]; exact h1, h2⟩
        · cases hm
      · obtain ⟨p1, p2, p3⟩ := mExp_spec hm
        obtain ⟨n, h1, h2⟩ := hl
        exact ⟨C', Step.same hinv p2 p1, n, by rw [p3 ρ ρ' hs hnb]; exact h1, h2⟩
      · obtain ⟨p1, p2, p3⟩ := mExp_spec hm
        obtain ⟨n, h1, h2⟩ := hl
        exact ⟨C', Step.same hinv p2 p1, n, by rw [p3 ρ ρ' hs hnb]; exact h1, h2⟩
      · cases hm; exact ⟨C', Step.same hinv rfl (Acc.le.refl _), hl⟩
      · exact mSlW_sound hT h hG hnb hm hl hinv hs mSl_le
      · exact mNil_sound hT hm hl hinv hs
      · split at hm
        · rename_i hj; subst hj
          obtain ⟨C'', s1, s2⟩ := i2 _ _ _ _ C' hm hinv hs
          obtain ⟨ob', q1, q2⟩ := s1.inv _ _ s2
          obtain ⟨rw', rwc, cells', cells, g, z1, z2, z3, z4, z5, z6, z7⟩ := q2
          obtain ⟨hk, b1, base, hA, hv⟩ := hl
          exact ⟨C'', s1, ⟨_, s2⟩, b1, base, by rw [z5.1]; exact hA, hv⟩
        · cases hm
      · split at hm
        · rename_i hc
          simp only [Bool.and_eq_true, decide_eq_true_eq] at hc
          obtain ⟨rfl, rfl⟩ := hc
          split at hm
          · rename_i o2 off2 len2 _ _ d _ hsome hrow
            split at hm
            · rename_i hc
              simp only [Bool.and_eq_true, decide_eq_true_eq] at hc
              obtain ⟨rfl, hw⟩ := hc
              obtain ⟨p1, p2, p3⟩ := mExp_spec hm
              obtain ⟨ob', q1, q2⟩ := hinv _ _ hsome
              obtain ⟨dp', et', x', ti', rows', m2, n2, c2, root', gr', obr', d', z1, z2, z3, z4, z5, z6, z7, z8, z9, z10, z11, z12, z13, z14, z15, z16, z17, z18, ⟨dp3, vw3, z19⟩, z20⟩ := q2
              rw [hrow] at z19; cases z19
              obtain ⟨w1, w2, w3⟩ := z20 hw
              obtain ⟨hk, m, b1, base, h1, h2, h3, h4⟩ := hl
              exact ⟨C', Step.same hinv p2 p1, ⟨_, p1.th _ _ hsome⟩, m, b1, base, by rw [p3 ρ ρ' hs hnb]; exact h1, by rw [w2]; exact h2, by rw [w1]; exact h3, h4⟩
            · cases hm
          · cases hm
        · cases hm
      · exact mSlw_sound hT h hG hnb hm hl hinv hs
      · split at hm
        · rename_i hc
          simp only [Bool.and_eq_true, decide_eq_true_eq] at hc
          obtain ⟨rfl, hlen⟩ := hc
          obtain ⟨C'', s1, s2⟩ := i4 _ _ _ _ C' hm hinv hs
          obtain ⟨vs, h1, h2, h3⟩ := hl
          refine ⟨C'', s1, vs, h1, by rw [h2, hlen], fun i c' hi => ?_⟩
          obtain ⟨c, t1, t2⟩ := s2 i c' hi
          obtain ⟨ob', q1, q2⟩ := s1.inv _ _ t2
          obtain ⟨rw', rwc, cells', cells, g, z1, z2, z3, z4, z5, z6, z7⟩ := q2
          obtain ⟨hk, b1, base, hA, hv⟩ := h3 i c t1
          exact ⟨⟨_, t2⟩, b1, base, by rw [z5.1]; exact hA, hv⟩
        · cases hm
      · cases hm
    · unfold mBox at hm
      split at hm
      · rename_i o2 hsome
        split at hm
        · rename_i he; subst he; cases hm
          exact ⟨C', Step.same hinv rfl (Acc.le.refl _), hsome⟩
        · cases hm
      · cases hm
      · split at hm
        · rename_i rw' cells' g rwc cells hobs hob
          split at hm
          · rename_i hc
            simp only [Bool.and_eq_true, decide_eq_true_eq, Bool.or_eq_true, Bool.not_eq_true'] at hc
            obtain ⟨⟨c1, c2⟩, c3⟩ := hc
            split at hm
            · rename_i a1 ha1
              split at hm
              · rename_i hn
                cases hm
                have hg := impl_sound c1 hG
                obtain ⟨b1, base, hA, hF, hcell, hfro⟩ := (h.obs o g _ hob).2.2 hg
                have hle1 : a1.le { a1 with th := (o', .bx o) :: a1.th } := by
                  refine ⟨fun y r hy => ?_, fun _ _ => id⟩
                  have : o' ≠ y := fun e => by subst e; rw [hn] at hy; cases hy
                  show look y ((o', Ref.bx o) :: a1.th) = some r
                  rw [look_cons_ne this]; exact hy
                obtain ⟨C1, s1, s2, s3⟩ := i3 cells' cells a a1 C' (fun j v => cellAt w b1 (base + j) = some v) ha1 hcell hinv (fun x e hx => hs x e (hle1.sg x e hx))
                have hstep := s1.inv.add (b := { a1 with th := (o', .bx o) :: a1.th }) (r := .bx o) (A := C.A o) (N := C.N o) (K := C.K o) (F := C.F o) hn hle1 rfl hobs ?_
                · exact ⟨_, s1.trans hstep, by show look o' (_ :: a1.th) = _; exact look_cons_self⟩
                · refine ⟨rw', rwc, cells', cells, g, rfl, hob, hg, fun e => ?_, ⟨Ctx.set_self.1, Ctx.set_self.2.1, Ctx.set_self.2.2.1⟩, Ctx.set_self.2.2.2, ?_⟩
                  · rcases c2 with c2 | c2
                    · rw [e] at c2; cases c2
                    · exact c2
                  · refine ⟨b1, base, by rw [Ctx.set_self.1]; exact hA, by rw [Ctx.set_self.2.2.2, hF, c3], fun j l' hj => ?_, fun e x hx => ?_⟩
                    · obtain ⟨v, v1, v2⟩ := s3 j l' hj
                      refine ⟨v, v1, leaf_alike v2 hle1 fun y r hy => Ctx.set_ne fun e => by subst e; rw [hn] at hy; cases hy⟩
                    · refine hfro ?_ x (by omega)
                      rcases c2 with c2 | c2
                      · rw [e] at c2; cases c2
                      · exact c2
              · cases hm
            · cases hm
          · cases hm
        · cases hm
    · cases ls' with
      | nil => cases ls with
        | nil =>
          simp only [mLeaves] at hm; cases hm
          exact ⟨C', Step.same hinv rfl (Acc.le.refl _), rfl, fun j l' hj => by simp at hj⟩
        | cons => simp [mLeaves] at hm
      | cons l' ls' => cases ls with
        | nil => simp [mLeaves] at hm
        | cons l ls =>
          simp only [mLeaves] at hm
          split at hm
          · rename_i a1 ha1
            have hle2 := j3 _ _ _ _ hm
            obtain ⟨v0, v1, v2⟩ := hl 0 l rfl
            obtain ⟨C1, s1, s2⟩ := i1 l' l a a1 v0 C' ha1 v2 hinv (fun x e hx => hs x e (hle2.sg x e hx))
            obtain ⟨C2, t1, t2, t3⟩ := i3 ls' ls a1 b C1 (fun j v => Vp (j + 1) v) hm (fun j l hj => hl (j + 1) l (by simpa using hj)) s1.inv hs
            refine ⟨C2, s1.trans t1, by simp [t2], fun j l2 hj => ?_⟩
            cases j with
            | zero => simp at hj; subst hj; exact ⟨v0, v1, leaf_alike s2 t1.le t1.alike⟩
            | succ j => exact t3 j l2 (by simpa using hj)
          · cases hm
    · cases cs' with
      | nil => cases cs with
        | nil =>
          simp only [mCaps] at hm; cases hm
          exact ⟨C', Step.same hinv rfl (Acc.le.refl _), fun j l' hj => by simp at hj⟩
        | cons => simp [mCaps] at hm
      | cons c' cs' => cases cs with
        | nil => simp [mCaps] at hm
        | cons c cs =>
          simp only [mCaps] at hm
          split at hm
          · rename_i a1 ha1
            have hle2 := j4 _ _ _ _ hm
            obtain ⟨C1, s1, s2⟩ := i2 c' c a a1 C' ha1 hinv (fun x e hx => hs x e (hle2.sg x e hx))
            obtain ⟨C2, t1, t2⟩ := i4 cs' cs a1 b C1 hm s1.inv hs
            refine ⟨C2, s1.trans t1, fun i c2 hi => ?_⟩
            cases i with
            | zero => simp at hi; subst hi; exact ⟨c, rfl, t1.le.th _ _ s2⟩
            | succ i => simpa using t2 i c2 (by simpa using hi)
          · cases hm
end
end Gp
