/- Gp, part 6: operations that turn no memory. -/
import Derived.Test.YtbifjnccebhmkaaGpTab
set_option linter.unusedVariables false
set_option linter.unusedSimpArgs false
namespace Gp
open Go

structure Res where
  sv : SV
  ob : List (Nat × Option (Grd × Obj))
  sis : List (Grd × SI)
  nx : Nat
  no : Nat
  deriving Repr, Inhabited

def Gam.appOb (Γ : Gam) : List (Nat × Option (Grd × Obj)) → Gam
  | [] => Γ
  | (o, some x) :: r => (Γ.setOb o x).appOb r
  | (o, none) :: r => (Γ.delOb o).appOb r

/-- What a step of the pure program says of the variables. -/
def SIok (I : Nat → List T → List T → Prop) (ρ : Env) : SI → Prop
  | .set x e => ρ x = den ρ e
  | .mov x es => ∀ (j : Nat) e, es[j]? = some e → ρ (x + j) = den ρ e
  | .chk e => den ρ e = .bool true
  | .call i args x n => ∃ outs, I i (args.map (den ρ)) outs ∧ outs.length = n ∧ ∀ (j : Nat) v, outs[j]? = some v → ρ (x + j) = v
def HoldsS (I : Nat → List T → List T → Prop) (ρ : Env) (l : List (Grd × SI)) : Prop := ∀ x ∈ l, holdsG ρ x.1 → SIok I ρ x.2

def impl (G g : Grd) : Bool := g.all fun x => G.contains x
theorem holdsG_iff {ρ : Env} : ∀ {g : Grd}, holdsG ρ g ↔ ∀ x ∈ g, den ρ x.1 = .bool x.2
  | [] => by simp [holdsG]
  | (e, b) :: r => by simp [holdsG, holdsG_iff (g := r)]
theorem impl_sound {ρ : Env} {G g : Grd} (h : impl G g = true) (hG : holdsG ρ G) : holdsG ρ g := by
  rw [holdsG_iff] at *
  intro x hx
  simp only [impl, List.all_eq_true] at h
  exact hG x (by simpa using h x hx)
theorem holdsG_append {ρ : Env} {a b : Grd} : holdsG ρ (a ++ b) ↔ holdsG ρ a ∧ holdsG ρ b := by
  simp only [holdsG_iff, List.mem_append]
  exact ⟨fun h => ⟨fun x hx => h x (.inl hx), fun x hx => h x (.inr hx)⟩, fun h x hx => hx.elim (h.1 x) (h.2 x)⟩

def litLeaf : Value → Option Leaf
  | .int k n => some (.int k (.int n))
  | .bool b => some (.bool (.bool b))
  | .string s => some (.str (.str s.data.toList))
  | .slice none 0 0 => some .nil
  | .pointer none => some .dead
  | .nilFunc => some .dead
  | .map none => some .dead
  | _ => none
def litSV : Value → Option SV
  | .agg vs => (vs.toList.mapM litLeaf).map fun ls => .s (.agg ls)
  | v => (litLeaf v).map fun l => .s (.one l)
/-- A row that can be read: whether it is owned, its elements' type, its data, whether it is a view. -/
def rowOf (Γ : Gam) (G : Grd) (o : Nat) : Option (Bool × TypeId × Exp × Bool) :=
  match Γ.obj o with
  | some (g, .row dp et d) => if impl G g then some (dp, et, d, false) else none
  | some (g, .view par pd _ _ et d) => if impl G g && !isHoleE d then
      match Γ.obj par with
      | some (gp, .row true _ pd') => if impl G gp && pd == pd' then some (true, et, d, true) else none
      | _ => none
    else none
  | _ => none

/-- A whole row's slice, with its offset and length told. -/
def normLeaf (Γ : Gam) (G : Grd) : Leaf → Leaf
  | .slw o et => match rowOf Γ G o with
    | some (_, et', d, _) => if et' = et then .sl o et (.int 0) (.un .len d) else .slw o et
    | none => .slw o et
  | l => l
def normS1 (Γ : Gam) (G : Grd) : S1 → S1
  | .one l => .one (normLeaf Γ G l)
  | .agg ls => .agg (ls.map (normLeaf Γ G))
def normSV (Γ : Gam) (G : Grd) : SV → SV
  | .s x => .s (normS1 Γ G x)
  | .tup xs => .tup (xs.map (normS1 Γ G))
def opd0 (Γ : Gam) (G : Grd) : Operand → Option SV
  | .tmp t => match Γ.get t with
    | some (g, sv) => if impl G g then some sv else none
    | none => none
  | .const v => litSV v
  | .func f => some (.s (.one (.fn f [])))
  | .global _ => none
def opd (Γ : Gam) (G : Grd) (x : Operand) : Option SV := (opd0 Γ G x).map (normSV Γ G)

section
variable {tab : Tab} {Γ : Gam} {ρ : Env} {tm : Array Value} {w : World} {C : Ctx} {kn : Kn} {Wr : CS} {w0 : World} {P : Program} {I : Nat → List T → List T → Prop} {G : Grd} {nx no : Nat}

theorem litLeaf_sound {k : Nat → Prop} {v : Value} {l : Leaf} (h : litLeaf v = some l) : LeafRel tab C k ρ l v ∧ ∀ cs, v ≠ .agg cs := by
  unfold litLeaf at h
  split at h <;> cases h <;> refine ⟨?_, fun cs => by simp⟩
  · exact ⟨_, rfl, rfl⟩
  · exact ⟨_, rfl, rfl⟩
  · exact ⟨_, rfl, by simp⟩
  · rfl
  · trivial
  · trivial
  · trivial

theorem mapM_get {α β : Type} {f : α → Option β} : ∀ {l : List α} {r : List β}, l.mapM f = some r → r.length = l.length ∧ ∀ (i : Nat) b, r[i]? = some b → ∃ a, l[i]? = some a ∧ f a = some b
  | [], r, h => by simp at h; subst h; exact ⟨rfl, fun i b h => by simp at h⟩
  | a :: l, r, h => by
    rw [List.mapM_cons] at h
    cases hf : f a with
    | none => rw [hf] at h; simp at h
    | some b =>
      rw [hf] at h
      cases hl : l.mapM f with
      | none => rw [hl] at h; simp at h
      | some bs =>
        rw [hl] at h
        simp at h; subst h
        obtain ⟨h1, h2⟩ := mapM_get hl
        refine ⟨by simp [h1], fun i c hi => ?_⟩
        cases i with
        | zero => simp at hi; subst hi; exact ⟨a, rfl, hf⟩
        | succ i => simpa using h2 i c (by simpa using hi)

theorem litSV_sound {k : Nat → Prop} {v : Value} {x : SV} (h : litSV v = some x) : SVRel tab C k ρ x v := by
  unfold litSV at h
  split at h
  · rename_i vs
    cases hm : vs.toList.mapM litLeaf with
    | none => rw [hm] at h; cases h
    | some ls =>
      rw [hm] at h; cases h
      obtain ⟨h1, h2⟩ := mapM_get hm
      refine ⟨vs, rfl, by simpa using h1.symm, fun i l hl => ?_⟩
      obtain ⟨u, h3, h4⟩ := h2 i l hl
      exact ⟨u, by simpa using h3, (litLeaf_sound h4).1⟩
  · cases hm : litLeaf v with
    | none => rw [hm] at h; cases h
    | some l => rw [hm] at h; cases h; exact litLeaf_sound hm

theorem opd0_sound (h : Rel tab Γ ρ tm w C kn Wr w0) (hG : holdsG ρ G) {x : Operand} {sv : SV} (ho : opd0 Γ G x = some sv) {ds : List Deferred} :
    SVRel tab C kn.o ρ sv (Act.eval ⟨tm, ds⟩ x) := by
  cases x with
  | tmp t =>
    simp only [opd0] at ho
    split at ho
    · rename_i g sv' hg
      split at ho
      · rename_i hi
        cases ho
        exact (h.tms t g sv hg).1 (impl_sound hi hG)
      · cases ho
    · cases ho
  | const v => exact litSV_sound ho
  | func f =>
    simp only [opd0, Option.some.injEq] at ho; subst ho
    exact ⟨⟨#[], rfl, rfl, fun i o hi => by simp at hi⟩, fun cs => by simp [Act.eval]⟩
  | global g => cases ho

theorem DRel.header {dp : Bool} {et : TypeId} {rows : List T} {a : Option Addr} {n c : Nat} {F : CS} (h : DRel tab w dp (.sl et) (.slice a n c) (.list rows) F) : rows.length = n ∧ n ≤ c ∧ (c = 0 ∨ ∃ b off, a = some ⟨b, off, none⟩) := by
  cases h with
  | @sl et ti rows _ n c b off vs Fs F hti hsz hn hc ha hwf hcell hrel hown hdis hdr hF => exact ⟨hn, hc, ha.elim (fun h => .inr ⟨b, off, h⟩) .inl⟩
theorem rowOf_sound (h : Rel tab Γ ρ tm w C kn Wr w0) (hG : holdsG ρ G) {o : Nat} {dp : Bool} {et : TypeId} {d : Exp} {vw : Bool} (hr : rowOf Γ G o = some (dp, et, d, vw)) :
    ∃ rows F' root gr obr, den ρ d = .list rows ∧ DRel tab w dp (.sl et) (.slice (C.A o) (C.N o) (C.K o)) (.list rows) F' ∧ Γ.obj root = some (gr, obr) ∧ holdsG ρ gr ∧ obr.isView = false ∧ Sub F' (C.F root) ∧
      (vw = false → root = o ∧ obr = .row dp et d) := by
  unfold rowOf at hr
  split at hr
  · rename_i g dp' et' d' ho
    split at hr
    · rename_i hi
      cases hr
      have hg := impl_sound hi hG
      obtain ⟨rows, h1, h2⟩ := (h.obs o g _ ho).2.2 hg
      exact ⟨rows, _, o, g, _, h1, h2, ho, hg, rfl, Sub.refl _, fun _ => ⟨rfl, rfl⟩⟩
    · cases hr
  · rename_i g par pd i j et' d' ho
    split at hr
    · rename_i hi
      simp only [Bool.and_eq_true, Bool.not_eq_true'] at hi
      obtain ⟨hi, hnh⟩ := hi
      split at hr
      · rename_i gp pet pd' hp
        split at hr
        · rename_i hc
          cases hr
          simp only [Bool.and_eq_true, beq_iff_eq] at hc
          obtain ⟨hc1, hc2⟩ := hc
          subst hc2
          have hgp := impl_sound hc1 hG
          obtain ⟨m, b, base, rows, a1, a2, a3, a4, a5, ⟨ti, t1, t2⟩, a8⟩ := (h.obs o g _ ho).2.2 (impl_sound hi hG) gp pet hp hgp
          obtain ⟨rs, a5, a6, a7⟩ := a5.resolve_left (fun ⟨o0, c, _⟩ => by rw [c] at hnh; cases hnh)
          obtain ⟨rows', r1, r2⟩ := (h.obs par gp _ hp).2.2 hgp
          rw [a4] at r1; cases r1
          rw [a3] at r2
          have hsz : tab.sz pet = ti.size := by simp [Tab.sz, t1]
          obtain ⟨v, F', g1, g2, g3⟩ := r2.get t1 a2 t2
          rw [hsz] at a7 a8
          rw [g1] at a8; cases a8
          rw [a7] at g2
          exact ⟨rs, F', par, gp, _, a5, g2, hp, hgp, rfl, g3, fun h => by cases h⟩
        · cases hr
      · cases hr
    · cases hr
  · cases hr


theorem normLeaf_sound (h : Rel tab Γ ρ tm w C kn Wr w0) (hG : holdsG ρ G) {l : Leaf} {v : Value} (hl : LeafRel tab C kn.o ρ l v) : LeafRel tab C kn.o ρ (normLeaf Γ G l) v := by
  unfold normLeaf
  split
  · rename_i o et
    split
    · rename_i dp et' d vw hrow
      split
      · rename_i he
        subst he
        obtain ⟨rows, F', root, gr, obr, r1, r2, _⟩ := rowOf_sound h hG hrow
        obtain ⟨x1, x2, x3⟩ := r2.header
        obtain ⟨hk, a, hv, ha⟩ := hl
        refine ⟨hk, 0, C.N o, a, C.K o, rfl, by simp only [den, U.den, r1, T.len, x1], hv, by omega, x2, by omega, ?_⟩
        rcases ha with ha | ⟨b, base, h1, h2⟩
        · exact .inl ha
        · exact .inr ⟨b, base, h1, by rw [h2]; simp⟩
      · exact hl
    · exact hl
  · exact hl
theorem normS1_sound (h : Rel tab Γ ρ tm w C kn Wr w0) (hG : holdsG ρ G) {x : S1} {v : Value} (hl : S1Rel tab C kn.o ρ x v) : S1Rel tab C kn.o ρ (normS1 Γ G x) v := by
  cases x with
  | one l => exact ⟨normLeaf_sound h hG hl.1, hl.2⟩
  | agg ls =>
    obtain ⟨vs, h1, h2, h3⟩ := hl
    refine ⟨vs, h1, by simpa using h2, fun i l hi => ?_⟩
    rw [List.getElem?_map] at hi
    cases hx : ls[i]? with
    | none => rw [hx] at hi; cases hi
    | some l0 =>
      rw [hx] at hi; cases hi
      obtain ⟨u, h4, h5⟩ := h3 i l0 hx
      exact ⟨u, h4, normLeaf_sound h hG h5⟩
theorem normSV_sound (h : Rel tab Γ ρ tm w C kn Wr w0) (hG : holdsG ρ G) {x : SV} {v : Value} (hl : SVRel tab C kn.o ρ x v) : SVRel tab C kn.o ρ (normSV Γ G x) v := by
  cases x with
  | s x => exact normS1_sound h hG hl
  | tup xs =>
    obtain ⟨vs, h1, h2, h3⟩ := hl
    refine ⟨vs, h1, by simpa using h2, fun i l hi => ?_⟩
    rw [List.getElem?_map] at hi
    cases hx : xs[i]? with
    | none => rw [hx] at hi; cases hi
    | some l0 =>
      rw [hx] at hi; cases hi
      obtain ⟨u, h4, h5⟩ := h3 i l0 hx
      exact ⟨u, h4, normS1_sound h hG h5⟩
theorem opd_sound (h : Rel tab Γ ρ tm w C kn Wr w0) (hG : holdsG ρ G) {x : Operand} {sv : SV} (ho : opd Γ G x = some sv) {ds : List Deferred} :
    SVRel tab C kn.o ρ sv (Act.eval ⟨tm, ds⟩ x) := by
  unfold opd at ho
  cases h0 : opd0 Γ G x with
  | none => rw [h0] at ho; cases ho
  | some y =>
    rw [h0] at ho; cases ho
    exact normSV_sound h hG (opd0_sound h hG h0)

/-- More is known; what was known lies where it lay. -/
structure Ext (C : Ctx) (kn : Kn) (C' : Ctx) (kn' : Kn) : Prop where
  le : kn.le kn'
  same : ∀ o, kn.o o → C'.A o = C.A o ∧ C'.N o = C.N o ∧ C'.K o = C.K o
theorem Ext.refl (C : Ctx) (kn : Kn) : Ext C kn C kn := ⟨Kn.le.refl _, fun _ _ => ⟨rfl, rfl, rfl⟩⟩
theorem Ext.set {kn' : Kn} {n : Nat} {A : Option Addr} {N K : Nat} {F : CS} (hn : ¬ kn.o n) (hk : kn.le kn') : Ext C kn (C.set n A N K F) kn' :=
  ⟨hk, fun o ho => by
    have : o ≠ n := fun e => hn (e ▸ ho)
    exact ⟨(Ctx.set_ne this).1, (Ctx.set_ne this).2.1, (Ctx.set_ne this).2.2.1⟩⟩
theorem Ext.upd {kn' : Kn} {n : Nat} {F : CS} (hk : kn.le kn') : Ext C kn (C.set n (C.A n) (C.N n) (C.K n) F) kn' :=
  ⟨hk, fun o ho => by
    by_cases e : o = n
    · subst e; exact ⟨Ctx.set_self.1, Ctx.set_self.2.1, Ctx.set_self.2.2.1⟩
    · exact ⟨(Ctx.set_ne e).1, (Ctx.set_ne e).2.1, (Ctx.set_ne e).2.2.1⟩⟩

/-- What an operation leaves. -/
def Post (tab : Tab) (Γ : Gam) (ρ : Env) (tm : Array Value) (C : Ctx) (kn : Kn) (Wr : CS) (w0 : World) (nx no : Nat) (r : Res) (v : Value) (w' : World) : Prop :=
  ∃ C' kn', Rel tab (Γ.appOb r.ob) ρ tm w' C' kn' Wr w0 ∧ SVRel tab C' kn'.o ρ r.sv v ∧ Ext C kn C' kn' ∧
    (∀ o, kn'.o o → kn.o o ∨ (no ≤ o ∧ o < r.no)) ∧ (∀ x, kn'.v x → kn.v x ∨ (nx ≤ x ∧ x < r.nx))

theorem Post.pure (h : Rel tab Γ ρ tm w C kn Wr w0) {r : Res} {v : Value} (hob : r.ob = []) (hv : SVRel tab C kn.o ρ r.sv v) : Post tab Γ ρ tm C kn Wr w0 nx no r v w :=
  ⟨C, kn, by rw [hob]; exact h, hv, Ext.refl _ _, fun _ => .inl, fun _ => .inl⟩

/-- The operation's run yields a value, and what it leaves fits. -/
def Yield (P : Program) (s : Sem Next) (w : World) (Q : Value → World → Prop) : Prop := ∃ v w', s.run P w = .ok (.value v) w' ∧ Q v w'

def anMove (Γ : Gam) (G : Grd) (nx no : Nat) (x : Operand) : Option Res := (opd Γ G x).map fun sv => ⟨sv, [], [], nx, no⟩
theorem anMove_sound (h : Rel tab Γ ρ tm w C kn Wr w0) (hG : holdsG ρ G) {x : Operand} {r : Res} (hr : anMove Γ G nx no x = some r) {ds : List Deferred} :
    Post tab Γ ρ tm C kn Wr w0 nx no r (Act.eval ⟨tm, ds⟩ x) w := by
  unfold anMove at hr
  cases ho : opd Γ G x with
  | none => rw [ho] at hr; cases hr
  | some sv => rw [ho] at hr; cases hr; exact Post.pure h rfl (opd_sound h hG ho)

/-- A scalar's leaf over a variable, out of two of one kind. -/
def iteLeaf (e : Exp) : Leaf → Leaf → Option (Exp × (Exp → Leaf))
  | .int k a, .int k' b => if k = k' then some (.tri .ite e a b, .int k) else none
  | .bool a, .bool b => some (.tri .ite e a b, .bool)
  | .str a, .str b => some (.tri .ite e a b, .str)
  | _, _ => none
def anPick (Γ : Gam) (G : Grd) (nx no : Nat) (c a b : Operand) : Option Res :=
  match opd Γ G c with
  | some (.s (.one (.bool e))) =>
    match opd Γ ((e, true) :: G) a, opd Γ ((e, false) :: G) b with
    | some (.s (.one la)), some (.s (.one lb)) => (iteLeaf e la lb).map fun (x, f) => ⟨.s (.one (f (.var nx))), [], [(G, .set nx x)], nx + 1, no⟩
    | _, _ => none
  | _ => none
theorem anPick_sound (h : Rel tab Γ ρ tm w C kn Wr w0) (hG : holdsG ρ G) {c a b : Operand} {r : Res} (hr : anPick Γ G nx no c a b = some r) (hS : HoldsS I ρ r.sis) {ds : List Deferred} :
    ∃ t, Act.eval ⟨tm, ds⟩ c = .bool t ∧ Post tab Γ ρ tm C kn Wr w0 nx no r (if t then Act.eval ⟨tm, ds⟩ a else Act.eval ⟨tm, ds⟩ b) w := by
  unfold anPick at hr
  split at hr
  case h_2 => cases hr
  rename_i e hc
  have hc' := opd_sound h hG hc (ds := ds)
  obtain ⟨⟨t, he, hv⟩, _⟩ := hc'
  refine ⟨t, hv, ?_⟩
  split at hr
  case h_2 => cases hr
  rename_i la lb ha hb
  cases hi : iteLeaf e la lb with
  | none => rw [hi] at hr; cases hr
  | some xf =>
    obtain ⟨x, f⟩ := xf
    rw [hi] at hr; cases hr
    have hx : ρ nx = den ρ x := hS (G, .set nx x) (by simp) hG
    refine Post.pure h rfl ?_
    cases t with
    | true =>
      obtain ⟨h1, h2⟩ := opd_sound (G := (e, true) :: G) h ⟨he, hG⟩ ha (ds := ds)
      refine ⟨?_, h2⟩
      unfold iteLeaf at hi
      split at hi
      · split at hi
        · rename_i hk; subst hk; cases hi
          obtain ⟨n, h3, h4⟩ := h1
          exact ⟨n, by rw [show den ρ (.var nx) = ρ nx from rfl, hx]; simp [den, Tr.den, he, h3, T.ite], h4⟩
        · cases hi
      · cases hi
        obtain ⟨n, h3, h4⟩ := h1
        exact ⟨n, by rw [show den ρ (.var nx) = ρ nx from rfl, hx]; simp [den, Tr.den, he, h3, T.ite], h4⟩
      · cases hi
        obtain ⟨n, h3, h4⟩ := h1
        exact ⟨n, by rw [show den ρ (.var nx) = ρ nx from rfl, hx]; simp [den, Tr.den, he, h3, T.ite], h4⟩
      · cases hi
    | false =>
      obtain ⟨h1, h2⟩ := opd_sound (G := (e, false) :: G) h ⟨he, hG⟩ hb (ds := ds)
      refine ⟨?_, h2⟩
      unfold iteLeaf at hi
      split at hi
      · split at hi
        · rename_i hk; subst hk; cases hi
          obtain ⟨n, h3, h4⟩ := h1
          exact ⟨n, by rw [show den ρ (.var nx) = ρ nx from rfl, hx]; simp [den, Tr.den, he, h3, T.ite], h4⟩
        · cases hi
      · cases hi
        obtain ⟨n, h3, h4⟩ := h1
        exact ⟨n, by rw [show den ρ (.var nx) = ρ nx from rfl, hx]; simp [den, Tr.den, he, h3, T.ite], h4⟩
      · cases hi
        obtain ⟨n, h3, h4⟩ := h1
        exact ⟨n, by rw [show den ρ (.var nx) = ρ nx from rfl, hx]; simp [den, Tr.den, he, h3, T.ite], h4⟩
      · cases hi
end
end Gp
