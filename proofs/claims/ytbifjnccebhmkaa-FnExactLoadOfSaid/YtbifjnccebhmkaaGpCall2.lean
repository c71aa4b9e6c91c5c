/- Gp, part 20: a call, as the analysis takes it. -/
import Derived.Test.YtbifjnccebhmkaaGpCall
set_option linter.unusedVariables false
set_option linter.unusedSimpArgs false
namespace Gp
open Go

def mS1 (tab : Tab) (Γ : Gam) (G : Grd) (nb : Nat) (obs : Obs) : S1 → S1 → Acc → Option Acc
  | .one l', .one l, a => mLeaf tab Γ G nb obs 400 l' l a
  | .agg ls', .agg ls, a => mLeaves tab Γ G nb obs 400 ls' ls a
  | _, _, _ => none
def mS1s (tab : Tab) (Γ : Gam) (G : Grd) (nb : Nat) (obs : Obs) : List S1 → List S1 → Acc → Option Acc
  | [], [], a => some a
  | x' :: xs', x :: xs, a => match mS1 tab Γ G nb obs x' x a with
    | some a => mS1s tab Γ G nb obs xs' xs a
    | none => none
  | _, _, _ => none

def rootOf (Γ : Gam) (o : Nat) : Nat := match Γ.obj o with
  | some (_, .view par ..) => par
  | _ => o
def rootRef (Γ : Gam) : Ref → Option Nat
  | .sl o _ _ => some (rootOf Γ o)
  | .nil => none
  | .bx o => some o
/-- An owned object of the target stands for what nothing else stands for. -/
def chkOwn (Γ : Gam) (obs : Obs) (th : List (Nat × Ref)) : Bool :=
  obs.all fun (o', ob) => !ob.owned || match look o' th with
    | some r => match rootRef Γ r with
      | some q => th.all fun (o2, r2) => Nat.beq o2 o' || (match rootRef Γ r2 with | some q2 => !Nat.beq q2 q | none => true)
      | none => true
    | none => false
def allBound (obs : Obs) (th : List (Nat × Ref)) : Bool := obs.all fun (o', _) => (look o' th).isSome

def passedOf (obs : Obs) (th : List (Nat × Ref)) : List Nat := obs.filterMap fun (o', ob) =>
  if ob.owned then match look o' th with
    | some (.sl o _ _) => some o
    | some (.bx o) => some o
    | _ => none
  else none

/-- What is kept of the caller's rows is kept whole. -/
def keptWhole (Γ : Gam) (G : Grd) (S : Sig) (th : List (Nat × Ref)) : Bool :=
  S.obs.all fun (o', ob) => !ob.owned || (look o' S.oobs).isNone || match look o' th with
    | some (.sl o off len) => match rowOf Γ G o with
      | some (_, _, d, _) => isWhole d off len
      | none => false
    | _ => true
def keysNodup : List (Nat × Obj) → Bool
  | [] => true
  | (k, _) :: r => (look k r).isNone && keysNodup r

def sgArgs (sg : List (Nat × Exp)) : Nat → Nat → Option (List Exp)
  | 0, _ => some []
  | n + 1, x => match look x sg, sgArgs sg n (x + 1) with
    | some e, some es => some (e :: es)
    | _, _ => none

def anCall (tab : Tab) (S : Sig) (i : Nat) (Γ : Gam) (G : Grd) (nx no : Nat) (args : List S1) : Option Res :=
  match mS1s tab Γ G 0 S.obs S.ins args ⟨[], []⟩ with
  | some a =>
    if allBound S.obs a.th && chkOwn Γ S.obs a.th && keptWhole Γ G S a.th && keysNodup S.oobs && keysNodup S.obs && a.sg.all (fun p => Nat.blt p.1 S.nin) then
      match sgArgs a.sg S.nin 0, backObs S G a.th no nx S.oobs, S.outs.mapM (backS1 S a.th no nx) with
      | some es, some L, some xs =>
        some ⟨match xs with | [x] => .s x | xs => .tup xs, dels (passedOf S.obs a.th) ++ ((L.map fun p => (p.1, p.2.2)).reverse.map fun p => (p.1, some p.2)), [(G, .call i es nx S.nout)], nx + S.nout, no + newCount S.obs S.oobs⟩
      | _, _, _ => none
    else none
  | none => none

section
variable {tab : Tab} {Γ : Gam} {ρ ρ' : Env} {tm : Array Value} {w w' : World} {C : Ctx} {kn kn' : Kn} {Wr : CS} {w0 : World} {P : Program} {I : Nat → List T → List T → Prop} {G : Grd} {nx no nb : Nat} {obs : Obs}

theorem mS1s_le : ∀ {xs' xs : List S1} {a b : Acc}, mS1s tab Γ G nb obs xs' xs a = some b → a.le b
  | [], [], a, b, h => by cases h; exact Acc.le.refl _
  | [], _ :: _, _, _, h => by simp [mS1s] at h
  | _ :: _, [], _, _, h => by simp [mS1s] at h
  | x' :: xs', x :: xs, a, b, h => by
    simp only [mS1s] at h
    split at h
    case h_2 => cases h
    rename_i a1 ha1
    refine Acc.le.trans ?_ (mS1s_le h)
    unfold mS1 at ha1
    split at ha1
    · exact (m_le 400).1 _ _ _ _ ha1
    · exact (m_le 400).2.2.1 _ _ _ _ ha1
    · cases ha1

theorem S1Rel.alike {a b : Acc} {C1 C2 : Ctx} {x : S1} {v : Value} (h : S1Rel tab C1 (kOf a) ρ x v) (hle : a.le b) (hal : Alike a C1 C2) : S1Rel tab C2 (kOf b) ρ x v :=
  h.mono (kOf.mono hle) fun o ⟨r, hr⟩ => ⟨(hal o r hr).1, (hal o r hr).2.1, (hal o r hr).2.2.1⟩

theorem mS1s_sound (hT : TabOk P tab) (h : Rel tab Γ ρ tm w C kn Wr w0) (hG : holdsG ρ G) (hnb : ∀ x, x < nb → ρ' x = ρ x) : ∀ {xs' xs : List S1} {a b : Acc} {C' : Ctx} (Vp : Nat → Value → Prop), mS1s tab Γ G nb obs xs' xs a = some b →
    (∀ (j : Nat) x, xs[j]? = some x → ∃ v, Vp j v ∧ S1Rel tab C kn.o ρ x v) → Inv tab Γ G ρ ρ' w C obs a C' → (∀ x e, look x b.sg = some e → ρ' x = den ρ e) →
    ∃ C'', Step tab Γ G ρ ρ' w C obs a b C' C'' ∧ xs'.length = xs.length ∧ ∀ (j : Nat) x', xs'[j]? = some x' → ∃ v, Vp j v ∧ S1Rel tab C'' (kOf b) ρ' x' v
  | [], [], a, b, C', Vp, hm, hl, hinv, hs => by
    cases hm
    exact ⟨C', Step.same hinv rfl (Acc.le.refl _), rfl, fun j x' hj => by simp at hj⟩
  | [], _ :: _, _, _, _, _, hm, _, _, _ => by simp [mS1s] at hm
  | _ :: _, [], _, _, _, _, hm, _, _, _ => by simp [mS1s] at hm
  | x' :: xs', x :: xs, a, b, C', Vp, hm, hl, hinv, hs => by
    simp only [mS1s] at hm
    split at hm
    case h_2 => cases hm
    rename_i a1 ha1
    have hle2 := mS1s_le hm
    obtain ⟨v0, v1, v2⟩ := hl 0 x rfl
    have hs1 : ∀ x e, look x a1.sg = some e → ρ' x = den ρ e := fun x e hx => hs x e (hle2.sg x e hx)
    obtain ⟨C1, s1, s2⟩ : ∃ C1, Step tab Γ G ρ ρ' w C obs a a1 C' C1 ∧ S1Rel tab C1 (kOf a1) ρ' x' v0 := by
      unfold mS1 at ha1
      split at ha1
      · obtain ⟨C1, q1, q2⟩ := (m_sound hT h hG hnb 400).1 _ _ _ _ v0 C' ha1 v2.1 hinv hs1
        exact ⟨C1, q1, q2, v2.2⟩
      · obtain ⟨vs, rfl, w1, w2⟩ := v2
        obtain ⟨C1, q1, q2, q3⟩ := (m_sound hT h hG hnb 400).2.2.1 _ _ _ _ C' (fun j u => vs[j]? = some u) ha1 w2 hinv hs1
        exact ⟨C1, q1, vs, rfl, by rw [w1, q2], q3⟩
      · cases ha1
    obtain ⟨C2, t1, t2, t3⟩ := mS1s_sound hT h hG hnb (fun j v => Vp (j + 1) v) hm (fun j x hj => hl (j + 1) x (by simpa using hj)) s1.inv hs
    refine ⟨C2, s1.trans t1, by simp [t2], fun j x2 hj => ?_⟩
    cases j with
    | zero => simp at hj; subst hj; exact ⟨v0, v1, S1Rel.alike s2 t1.le t1.alike⟩
    | succ j => exact t3 j x2 (by simpa using hj)

theorem Inv.empty {C' : Ctx} : Inv tab Γ G ρ ρ' w C obs ⟨[], []⟩ C' := fun o r h => by simp [look] at h

theorem look_mem {α : Type} : ∀ {l : List (Nat × α)} {k : Nat} {x : α}, look k l = some x → (k, x) ∈ l
  | [], k, x, h => by simp [look] at h
  | (q, y) :: r, k, x, h => by
    simp only [look] at h
    split at h
    · rename_i e
      have := Nat.eq_of_beq_eq_true e
      subst this; cases h; simp
    · exact List.mem_cons_of_mem _ (look_mem h)

/-- The root of a bound object, as the check computes it. -/
theorem Bound.root {C' : Ctx} {k' : Nat → Prop} {o' : Nat} {ob' : Obj} {r : Ref} (hb : Bound tab Γ ρ ρ' w (G := G) C C' k' o' ob' r) :
    (rootRef Γ r = none ∧ C'.F o' = Emp) ∨ ∃ q g ob, rootRef Γ r = some q ∧ Γ.obj q = some (g, ob) ∧ holdsG ρ g ∧ ob.isView = false ∧ Sub (C'.F o') (C.F q) ∧ (ob'.owned = true → ob.owned = true ∧ (match r with | .sl o _ _ => o = q | .bx o => o = q | .nil => True)) := by
  cases r with
  | nil =>
    obtain ⟨dp, et, x, z1, z2, z3, z4, _⟩ := hb
    exact .inl ⟨rfl, z4⟩
  | sl o off len =>
    obtain ⟨dp', et', x', ti', rows', m2, n2, c2, root', gr', obr', d', z1, z2, z3, z4, z5, z6, z7, z8, z9, z10, _⟩ := hb
    right
    have hroot : rootOf Γ o = root' := by
      rcases z9 with z9 | ⟨g, pd, i, j, et2, d2, hv⟩
      · subst z9
        unfold rootOf
        rw [z5]
        cases obr' with
        | view => cases z7
        | row => rfl
        | box => rfl
      · unfold rootOf; rw [hv]
    refine ⟨root', gr', obr', by simp only [rootRef, hroot], z5, z6, z7, z8, fun ho => ?_⟩
    subst z1
    obtain ⟨y1, y2⟩ := z10 ho
    exact ⟨y2, y1.symm⟩
  | bx o =>
    obtain ⟨rw', rwc, cells', cells, g, z1, z2, z3, z4, z5, z6, z7⟩ := hb
    right
    refine ⟨o, g, _, rfl, z2, z3, rfl, by rw [z6]; exact Sub.refl _, fun ho => ⟨?_, rfl⟩⟩
    subst z1
    exact z4 ho

/-- The target's objects, once all are bound: what is told of them holds, and the owned ones are apart. -/
theorem coe_objs (h : Rel tab Γ ρ tm w C kn Wr w0) {a : Acc} {C' : Ctx} (hinv : Inv tab Γ G ρ ρ' w C obs a C') (hab : allBound obs a.th = true) (hco : chkOwn Γ obs a.th = true) :
    (∀ o, kIn obs o ↔ kOf a o) ∧
    (∀ o ob, look o obs = some ob → ∃ r, look o a.th = some r ∧ Bound tab Γ ρ ρ' w (G := G) C C' (kOf a) o ob r) ∧
    (∀ o ob, look o obs = some ob → ob.isView = false ∧ ObRel tab C' (kIn obs) ρ' noGam w o ob) ∧
    (∀ o1 o2 ob1 ob2, look o1 obs = some ob1 → look o2 obs = some ob2 → o1 ≠ o2 → ob1.owned = true → Disj (C'.F o1) (C'.F o2)) ∧
    (∀ o ob, look o obs = some ob → ob.owned = true → ∀ b x, C'.F o b x → ∃ q g obq, q ∈ passedOf obs a.th ∧ Γ.obj q = some (g, obq) ∧ holdsG ρ g ∧ obq.owned = true ∧ C.F q b x) := by
  have hk : ∀ o, kIn obs o ↔ kOf a o := by
    intro o
    constructor
    · rintro ⟨ob, ho⟩
      simp only [allBound, List.all_eq_true] at hab
      have := hab _ (look_mem ho)
      exact Option.isSome_iff_exists.1 this
    · rintro ⟨r, hr⟩
      obtain ⟨ob', h1, _⟩ := hinv o r hr
      exact ⟨ob', h1⟩
  have hb : ∀ o ob, look o obs = some ob → ∃ r, look o a.th = some r ∧ Bound tab Γ ρ ρ' w (G := G) C C' (kOf a) o ob r := by
    intro o ob ho
    obtain ⟨r, hr⟩ := (hk o).1 ⟨ob, ho⟩
    obtain ⟨ob', h1, h2⟩ := hinv o r hr
    rw [ho] at h1; cases h1
    exact ⟨r, hr, h2⟩
  refine ⟨hk, hb, fun o ob ho => ?_, fun o1 o2 ob1 ob2 ho1 ho2 hne hown => ?_, fun o ob ho hown b x hf => ?_⟩
  · obtain ⟨r, hr, hB⟩ := hb o ob ho
    cases r with
    | sl o2 off len =>
      obtain ⟨dp', et', x', ti', rows', m2, n2, c2, root', gr', obr', d', z1, z2, z3, z4, _⟩ := hB
      subst z1
      exact ⟨rfl, rows', z3, z4⟩
    | nil =>
      obtain ⟨dp, et, x, z1, z2, z3, _⟩ := hB
      subst z1
      exact ⟨rfl, [], z2, z3⟩
    | bx o2 =>
      obtain ⟨rw', rwc, cells', cells, g, z1, z2, z3, z4, z5, z6, z7⟩ := hB
      subst z1
      refine ⟨rfl, (z7.mono (fun o h => (hk o).2 h) ⟨_, hr⟩ (fun _ _ => ⟨rfl, rfl, rfl⟩) rfl fun _ _ _ _ _ _ he => by cases he).congrObj fun _ _ _ _ _ _ he => by cases he⟩
  · obtain ⟨r1, hr1, hB1⟩ := hb o1 ob1 ho1
    obtain ⟨r2, hr2, hB2⟩ := hb o2 ob2 ho2
    rcases hB1.root with ⟨_, e1⟩ | ⟨q1, g1, p1, x1, x2, x3, x4, x5, x6⟩
    · rw [e1]; exact fun _ _ h => h.elim
    · rcases hB2.root with ⟨_, e2⟩ | ⟨q2, g2, p2, y1, y2, y3, y4, y5, y6⟩
      · rw [e2]; exact fun _ _ _ h => h.elim
      · have hq : q1 ≠ q2 := by
          rintro rfl
          simp only [chkOwn, List.all_eq_true] at hco
          have := hco _ (look_mem ho1)
          simp only [hown, Bool.not_true, Bool.false_or, hr1, x1, List.all_eq_true] at this
          have := this _ (look_mem hr2)
          simp only [y1, Nat.beq_refl, Bool.not_true, Bool.or_false] at this
          exact hne (Nat.eq_of_beq_eq_true this).symm
        exact (h.dis q1 q2 g1 g2 p1 p2 x2 y2 x3 y3 hq (x6 hown).1 y4).sub x5 y5
  · obtain ⟨r, hr, hB⟩ := hb o ob ho
    rcases hB.root with ⟨_, e1⟩ | ⟨q, g, p, x1, x2, x3, x4, x5, x6⟩
    · rw [e1] at hf; exact hf.elim
    · refine ⟨q, g, p, ?_, x2, x3, (x6 hown).1, x5 b x hf⟩
      have hmem : (o, ob) ∈ obs := look_mem ho
      simp only [passedOf, List.mem_filterMap]
      refine ⟨(o, ob), hmem, ?_⟩
      simp only [hown, if_true, hr]
      have h6 := (x6 hown).2
      cases r with
      | sl o2 _ _ => simp only at h6 ⊢; rw [h6]
      | bx o2 => simp only at h6 ⊢; rw [h6]
      | nil => simp [rootRef] at x1

theorem passed_owned (hn : keysNodup obs = true) (h : Rel tab Γ ρ tm w C kn Wr w0) {a : Acc} {C' : Ctx} (hinv : Inv tab Γ G ρ ρ' w C obs a C') (hab : allBound obs a.th = true) (hco : chkOwn Γ obs a.th = true) :
    ∀ q ∈ passedOf obs a.th, ∃ g ob, Γ.obj q = some (g, ob) ∧ holdsG ρ g ∧ ob.owned = true := by
  have hlook : ∀ (l : Obs), keysNodup l = true → ∀ o ob, (o, ob) ∈ l → look o l = some ob := by
    intro l
    induction l with
    | nil => intro _ o ob h; simp at h
    | cons p l ih =>
      obtain ⟨k, x⟩ := p
      intro hnd o ob hm
      simp only [keysNodup, Bool.and_eq_true] at hnd
      rcases List.mem_cons.1 hm with e | hm
      · cases e; exact look_cons_self
      · have hl := ih hnd.2 o ob hm
        have : k ≠ o := by
          rintro rfl
          rw [hl] at hnd; simp at hnd
        rw [look_cons_ne this]; exact hl
  intro q hq
  simp only [passedOf, List.mem_filterMap] at hq
  obtain ⟨⟨o, ob⟩, hm, hq⟩ := hq
  split at hq
  case isFalse => cases hq
  rename_i hown
  obtain ⟨r, hr, hB⟩ := (coe_objs h hinv hab hco).2.1 o ob (hlook obs hn o ob hm)
  simp only [hr] at hq
  rcases hB.root with ⟨e1, _⟩ | ⟨q1, g1, p1, x1, x2, x3, x4, x5, x6⟩
  · cases r with
    | nil => simp at hq
    | sl => simp [rootRef] at e1
    | bx => simp [rootRef] at e1
  · obtain ⟨x7, x8⟩ := x6 hown
    cases r with
    | nil => simp at hq
    | sl o2 _ _ => simp at hq x8; subst hq; subst x8; exact ⟨g1, p1, x2, x3, x7⟩
    | bx o2 => simp at hq x8; subst hq; subst x8; exact ⟨g1, p1, x2, x3, x7⟩
end
end Gp
