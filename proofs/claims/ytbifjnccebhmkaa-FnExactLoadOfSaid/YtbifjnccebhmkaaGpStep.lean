/- Gp, part 4: how a state's shape is carried on: a temporary written, memory grown, an object added, dropped, written. -/
import Derived.Test.YtbifjnccebhmkaaGpRel
set_option linter.unusedVariables false
set_option linter.unusedSimpArgs false
namespace Gp
open Go
variable {tab : Tab} {Γ : Gam} {ρ : Env} {tm : Array Value} {w w' : World} {C C' : Ctx} {kn kn' : Kn} {Wr : CS} {w0 : World}

theorem getD_set_self {tm : Array Value} {t : Nat} {v : Value} (h : t < tm.size) : (tm.setIfInBounds t v).getD t undef = v := by
  simp [Array.getD_eq_getD_getElem?, h]
theorem getD_set_ne {tm : Array Value} {t t' : Nat} {v : Value} (h : t ≠ t') : (tm.setIfInBounds t v).getD t' undef = tm.getD t' undef := by
  simp [Array.getD_eq_getD_getElem?, Array.getElem?_setIfInBounds_ne h]

theorem ObRel.congrObj {Γ' : Gam} {o : Nat} {ob : Obj} {k : Nat → Prop} (h : ObRel tab C k ρ Γ w o ob)
    (ho : ∀ par pd i j et d, ob = .view par pd i j et d → ∀ gp pet, Γ'.obj par = some (gp, .row true pet pd) → holdsG ρ gp → ∃ gp', Γ.obj par = some (gp', .row true pet pd) ∧ holdsG ρ gp') : ObRel tab C k ρ Γ' w o ob := by
  cases ob with
  | row dp et d => exact h
  | box rw cells => exact h
  | view par pd i j et d =>
    intro gp pet hp hg
    obtain ⟨gp', h1, h2⟩ := ho _ _ _ _ _ _ rfl gp pet hp hg
    exact h gp' pet h1 h2

/-- A temporary is written. -/
theorem Rel.put (h : Rel tab Γ ρ tm w C kn Wr w0) {t : Nat} {g : Grd} {sv : SV} {v : Value} (ht : t < tm.size)
    (hv : holdsG ρ g → SVRel tab C kn.o ρ sv v) (hu : ¬ holdsG ρ g → v = undef) : Rel tab (Γ.put t (g, sv)) ρ (tm.setIfInBounds t v) w C kn Wr w0 where
  tms t' g' sv' h' := by
    by_cases e : t = t'
    · subst e
      rw [Gam.get_put_self] at h'; cases h'
      rw [getD_set_self ht]; exact ⟨hv, hu⟩
    · rw [Gam.get_put_ne _ _ e] at h'; rw [getD_set_ne e]; exact h.tms t' g' sv' h'
  obs o g' ob h' := by
    obtain ⟨h1, h2, h3⟩ := h.obs o g' ob h'
    exact ⟨h1, h2, fun hg => (h3 hg).congrObj fun par pd i j et d _ gp pet hp hgp => ⟨gp, hp, hgp⟩⟩
  dis := h.dis
  own := h.own
  frm := h.frm

/-- Nothing is written. -/
theorem Rel.noDst (h : Rel tab Γ ρ tm w C kn Wr w0) : Rel tab Γ ρ tm w C kn Wr w0 := h

theorem LeafRel.mono {k k' : Nat → Prop} {l : Leaf} {v : Value} (h : LeafRel tab C k ρ l v) (hk : ∀ o, k o → k' o)
    (hC : ∀ o, k o → C'.A o = C.A o ∧ C'.N o = C.N o ∧ C'.K o = C.K o) : LeafRel tab C' k' ρ l v := by
  cases l with
  | dead => trivial
  | int => exact h
  | bool => exact h
  | str => exact h
  | nil => exact h
  | sl o et off len =>
    obtain ⟨ho, h⟩ := h
    obtain ⟨e1, e2, e3⟩ := hC o ho
    refine ⟨hk o ho, ?_⟩
    rw [e1, e2, e3]; exact h
  | slw o et =>
    obtain ⟨ho, h⟩ := h
    obtain ⟨e1, e2, e3⟩ := hC o ho
    exact ⟨hk o ho, by rw [e1, e2, e3]; exact h⟩
  | pb o j =>
    obtain ⟨ho, h⟩ := h
    exact ⟨hk o ho, by rw [(hC o ho).1]; exact h⟩
  | pe o et i j =>
    obtain ⟨ho, h⟩ := h
    exact ⟨hk o ho, by rw [(hC o ho).1, (hC o ho).2.1]; exact h⟩
  | fn f caps =>
    obtain ⟨vs, h1, h2, h3⟩ := h
    refine ⟨vs, h1, h2, fun i o hi => ?_⟩
    obtain ⟨ho, h⟩ := h3 i o hi
    exact ⟨hk o ho, by rw [(hC o ho).1]; exact h⟩

theorem S1Rel.mono {k k' : Nat → Prop} {x : S1} {v : Value} (h : S1Rel tab C k ρ x v) (hk : ∀ o, k o → k' o)
    (hC : ∀ o, k o → C'.A o = C.A o ∧ C'.N o = C.N o ∧ C'.K o = C.K o) : S1Rel tab C' k' ρ x v := by
  cases x with
  | one l => exact ⟨h.1.mono hk hC, h.2⟩
  | agg ls =>
    obtain ⟨vs, h1, h2, h3⟩ := h
    refine ⟨vs, h1, h2, fun i l hl => ?_⟩
    obtain ⟨u, h4, h5⟩ := h3 i l hl
    exact ⟨u, h4, h5.mono hk hC⟩

theorem SVRel.mono {k k' : Nat → Prop} {x : SV} {v : Value} (h : SVRel tab C k ρ x v) (hk : ∀ o, k o → k' o)
    (hC : ∀ o, k o → C'.A o = C.A o ∧ C'.N o = C.N o ∧ C'.K o = C.K o) : SVRel tab C' k' ρ x v := by
  cases x with
  | s x => exact S1Rel.mono h hk hC
  | tup xs =>
    obtain ⟨vs, h1, h2, h3⟩ := h
    refine ⟨vs, h1, h2, fun i l hl => ?_⟩
    obtain ⟨u, h4, h5⟩ := h3 i l hl
    exact ⟨u, h4, h5.mono hk hC⟩

theorem Obj.verOk.mono {ob : Obj} (h : ob.verOk kn) (ho : ∀ x, kn.o x → kn'.o x) (hv : ∀ x, kn.v x → kn'.v x) : ob.verOk kn' := by
  cases ob with
  | row dp et d => cases dp with
    | true => obtain ⟨x, h1, h2⟩ := h; exact ⟨x, h1, hv x h2⟩
    | false => trivial
  | view par pd i j et d => obtain ⟨h0, x, h1, h2⟩ := h; exact ⟨ho _ h0, x, h1, hv x h2⟩
  | box => trivial

/-- The cells that an object of the shape leads to are in memory. -/
theorem ObRel.there {o : Nat} {ob : Obj} {k : Nat → Prop} (h : ObRel tab C k ρ Γ w o ob) (hv : ob.isView = false) : ∀ b x, C.F o b x → ∃ u, cellAt w b x = some u := by
  cases ob with
  | row dp et d => obtain ⟨rows, _, h2⟩ := h; exact h2.there
  | view => cases hv
  | box rw cells =>
    obtain ⟨b, base, _, hF, hc, _⟩ := h
    rw [hF]
    rintro b' x ⟨rfl, h1, h2⟩
    obtain ⟨v, h3, _⟩ := hc (x - base) (cells[x - base]'(by omega)) (List.getElem?_eq_getElem (by omega))
    exact ⟨v, by rw [← h3]; congr 1; omega⟩
theorem ObRel.lt {o : Nat} {ob : Obj} {k : Nat → Prop} (h : ObRel tab C k ρ Γ w o ob) (hv : ob.isView = false) {b x : Nat} (hf : C.F o b x) : b < w.heap.size := by
  obtain ⟨u, hu⟩ := h.there hv b x hf
  exact cellAt_lt hu

/-- An object's relation over a world in which its cells stand. -/
theorem ObRel.frame {o : Nat} {ob : Obj} {k : Nat → Prop} (h : ObRel tab C k ρ Γ w o ob) (hv : ob.isView = false) (s : SameOn w w' (C.F o)) : ObRel tab C k ρ Γ w' o ob := by
  cases ob with
  | row dp et d => obtain ⟨rows, h1, h2⟩ := h; exact ⟨rows, h1, h2.frame s⟩
  | view => cases hv
  | box rw cells =>
    obtain ⟨b, base, h1, hF, hc, hz⟩ := h
    refine ⟨b, base, h1, hF, fun j l hl => ?_, fun hr x hx => ?_⟩
    · obtain ⟨v, h3, h4⟩ := hc j l hl
      have hj := List.getD_some_lt hl
      have := s b (base + j) (by rw [hF]; exact ⟨rfl, by omega, by omega⟩)
      exact ⟨v, this.1.trans h3, h4⟩
    · have := s b (base + x) (by rw [hF]; exact ⟨rfl, by omega, by omega⟩)
      exact this.2.trans (hz hr x hx)

/-- A valid view's header cell is one of its parent's. -/
theorem ObRel.viewFrame {o par : Nat} {pd i d : Exp} {j : Nat} {et : TypeId} {k : Nat → Prop} (h : ObRel tab C k ρ Γ w o (.view par pd i j et d))
    (hp : ∀ gp pet, Γ.obj par = some (gp, .row true pet pd) → holdsG ρ gp → ObRel tab C k ρ Γ w par (.row true pet pd))
    (s : ∀ gp pet, Γ.obj par = some (gp, .row true pet pd) → holdsG ρ gp → SameOn w w' (C.F par)) : ObRel tab C k ρ Γ w' o (.view par pd i j et d) := by
  intro gp pet h1 h2
  obtain ⟨m, b, base, rows, a1, a2, a3, a4, a5, ⟨ti, t1, t2⟩, a8⟩ := h gp pet h1 h2
  refine ⟨m, b, base, rows, a1, a2, a3, a4, a5, ⟨ti, t1, t2⟩, ?_⟩
  obtain ⟨rows', r1, r2⟩ := hp gp pet h1 h2
  rw [a3] at r2
  have hsz : tab.sz pet = ti.size := by simp [Tab.sz, t1]
  cases r2 with
  | @sl et ti' rows _ n c b' off' vs Fs F hti' hsz' hn hc ha hwf hcell hrel hown hdis hdr hF =>
    rw [t1] at hti'; cases hti'
    have hj := List.getD_some_lt t2
    rw [← hsz'] at hj
    have hpl := place_lt a2 hj
    have hcn : C.N par * ti.size ≤ C.K par * ti.size := Nat.mul_le_mul_right _ hc
    rcases ha with ha | ha
    · cases ha
      refine ((s gp pet h1 h2) _ _ ?_).1.trans a8
      rw [hF]; exact .inl ⟨rfl, by rw [hsz]; omega, by rw [hsz]; simp; omega⟩
    · rw [ha] at hc; omega

/-- The world grows; what was there stands. -/
structure Grows (w w' : World) : Prop where
  size : w.heap.size ≤ w'.heap.size
  blk : ∀ b, b < w.heap.size → w'.heap[b]? = w.heap[b]?
  os : w'.os = w.os
  tape : w'.tape = w.tape
  output : w'.output = w.output
theorem Grows.refl (w : World) : Grows w w := ⟨Nat.le_refl _, fun _ _ => rfl, rfl, rfl, rfl⟩
theorem Grows.trans {w w' w'' : World} (h : Grows w w') (k : Grows w' w'') : Grows w w'' :=
  ⟨Nat.le_trans h.size k.size, fun b hb => (k.blk b (Nat.lt_of_lt_of_le hb h.size)).trans (h.blk b hb), k.os.trans h.os, k.tape.trans h.tape, k.output.trans h.output⟩
theorem Grows.drew (w : World) : Grows w w.drew := ⟨Nat.le_refl _, fun _ _ => rfl, rfl, rfl, rfl⟩
theorem Grows.push (w : World) (o : Go.Obj) : Grows w (w.alloc o) := ⟨by show w.heap.size ≤ (w.heap.push o).size; simp, fun b hb => heap_alloc_old w o b hb, rfl, rfl, rfl⟩
theorem sameAt_of_blk {b x : Nat} (h : w'.heap[b]? = w.heap[b]?) : SameAt w w' b x := by
  constructor
  · simp only [cellAt, World.cell?, h]
  · simp only [frozenAt, World.frozen?, h]
theorem Grows.same (h : Grows w w') {F : CS} (hF : ∀ b x, F b x → b < w.heap.size) : SameOn w w' F := fun b x hf => sameAt_of_blk (h.blk b (hF b x hf))

theorem Frame.refl (Wr : CS) (w : World) : Frame Wr w w := ⟨Nat.le_refl _, fun _ _ _ => rfl, fun _ _ _ _ => ⟨rfl, rfl⟩, rfl, rfl, rfl⟩
theorem Frame.grows (h : Frame Wr w0 w) (k : Grows w w') : Frame Wr w0 w' where
  size := Nat.le_trans h.size k.size
  blk b hb hn := (k.blk b (Nat.lt_of_lt_of_le hb h.size)).trans (h.blk b hb hn)
  cel b x hb hn := by
    have h1 := h.cel b x hb hn
    have h2 := sameAt_of_blk (x := x) (k.blk b (Nat.lt_of_lt_of_le hb h.size))
    exact ⟨h2.1.trans h1.1, h2.2.trans h1.2⟩
  os := k.os.trans h.os
  tape := k.tape.trans h.tape
  output := k.output.trans h.output

theorem Rel.grows (h : Rel tab Γ ρ tm w C kn Wr w0) (k : Grows w w') : Rel tab Γ ρ tm w' C kn Wr w0 where
  tms := h.tms
  obs o g ob ho := by
    obtain ⟨h1, h2, h3⟩ := h.obs o g ob ho
    refine ⟨h1, h2, fun hg => ?_⟩
    have hr := h3 hg
    cases hv : ob.isView with
    | false => exact hr.frame hv (k.same fun b x hf => hr.lt hv hf)
    | true =>
      cases ob with
      | view par pd i j et d =>
        exact hr.viewFrame (fun gp pet hp hgp => (h.obs par gp _ hp).2.2 hgp) fun gp pet hp hgp => k.same fun b x hf => ((h.obs par gp _ hp).2.2 hgp).lt rfl hf
      | row => cases hv
      | box => cases hv
  dis := h.dis
  own := h.own
  frm := h.frm.grows k

/-- An object is forgotten. -/
theorem Rel.delOb (h : Rel tab Γ ρ tm w C kn Wr w0) (o : Nat) : Rel tab (Γ.delOb o) ρ tm w C kn Wr w0 := by
  have key : ∀ o' g ob, (Γ.delOb o).obj o' = some (g, ob) → Γ.obj o' = some (g, ob) := by
    intro o' g ob h'
    by_cases e : o = o'
    · subst e; rw [Gam.obj_delOb_self] at h'; cases h'
    · rw [Gam.obj_delOb_ne _ e] at h'; exact h'
  exact {
    tms := h.tms
    obs := fun o' g ob h' => by
      obtain ⟨h1, h2, h3⟩ := h.obs o' g ob (key _ _ _ h')
      exact ⟨h1, h2, fun hg => (h3 hg).congrObj fun par pd i j et d _ gp pet hp hgp => ⟨gp, key _ _ _ hp, hgp⟩⟩
    dis := fun a b g g' ob ob' ha hb => h.dis a b g g' ob ob' (key _ _ _ ha) (key _ _ _ hb)
    own := fun a g ob ha => h.own a g ob (key _ _ _ ha)
    frm := h.frm }

def Ctx.set (C : Ctx) (o : Nat) (A : Option Addr) (N K : Nat) (F : CS) : Ctx :=
  { A := fun x => if x = o then A else C.A x, N := fun x => if x = o then N else C.N x, K := fun x => if x = o then K else C.K x, F := fun x => if x = o then F else C.F x }
theorem Ctx.set_ne {C : Ctx} {o o' : Nat} {A : Option Addr} {N K : Nat} {F : CS} (h : o' ≠ o) :
    (C.set o A N K F).A o' = C.A o' ∧ (C.set o A N K F).N o' = C.N o' ∧ (C.set o A N K F).K o' = C.K o' ∧ (C.set o A N K F).F o' = C.F o' := by simp [Ctx.set, h]
theorem Ctx.set_self {C : Ctx} {o : Nat} {A : Option Addr} {N K : Nat} {F : CS} :
    (C.set o A N K F).A o = A ∧ (C.set o A N K F).N o = N ∧ (C.set o A N K F).K o = K ∧ (C.set o A N K F).F o = F := by simp [Ctx.set]

def Kn.addO (kn : Kn) (o : Nat) : Kn := { kn with o := fun x => kn.o x ∨ x = o }
def Kn.addV (kn : Kn) (v : Nat) : Kn := { kn with v := fun x => kn.v x ∨ x = v }

theorem ObRel.mono {k k' : Nat → Prop} {o : Nat} {ob : Obj} (h : ObRel tab C k ρ Γ w o ob) (hk : ∀ o, k o → k' o) (hko : k o)
    (hC : ∀ o, k o → C'.A o = C.A o ∧ C'.N o = C.N o ∧ C'.K o = C.K o) (e4 : C'.F o = C.F o)
    (hp : ∀ par pd i j et d, ob = .view par pd i j et d → ∀ gp pet, Γ.obj par = some (gp, .row true pet pd) → k par) : ObRel tab C' k' ρ Γ w o ob := by
  obtain ⟨e1, e2, e3⟩ := hC o hko
  cases ob with
  | row dp et d => obtain ⟨rows, h1, h2⟩ := h; exact ⟨rows, h1, by rw [e1, e2, e3, e4]; exact h2⟩
  | box rw cells =>
    obtain ⟨b, base, h1, hF, hc, hz⟩ := h
    refine ⟨b, base, e1.trans h1, e4.trans hF, fun j l hl => ?_, hz⟩
    obtain ⟨v, h3, h4⟩ := hc j l hl
    exact ⟨v, h3, h4.mono hk hC⟩
  | view par pd i j et d =>
    intro gp pet h1 h2
    obtain ⟨m, b, base, rows, a1, a2, a3, a4, a5, a8, a9⟩ := h gp pet h1 h2
    have hkp := hp _ _ _ _ _ _ rfl gp pet h1
    obtain ⟨f1, f2, f3⟩ := hC par hkp
    refine ⟨m, b, base, rows, a1, by rw [f2]; exact a2, by rw [f1]; exact a3, a4, ?_, a8, by rw [e1, e2, e3]; exact a9⟩
    rw [e1, e2, e3]
    refine a5.imp (fun ⟨o0, c1, c2, c3, c4, c5⟩ => ?_) id
    obtain ⟨g1, g2, g3⟩ := hC o0 c2
    exact ⟨o0, c1, hk _ c2, by rw [g1]; exact c3, by rw [g2]; exact c4, by rw [g3]; exact c5⟩

/-- A new object, under a number that nothing knows. -/
theorem Rel.addOb (h : Rel tab Γ ρ tm w C kn Wr w0) {o : Nat} (ho : ¬ kn.o o) {g : Grd} {ob : Obj} {A : Option Addr} {N K : Nat} {F : CS}
    (hver : ob.verOk kn) (hob : holdsG ρ g → ObRel tab (C.set o A N K F) (kn.addO o).o ρ (Γ.setOb o (g, ob)) w o ob)
    (hd1 : holdsG ρ g → ob.owned = true → ∀ o' g' ob', Γ.obj o' = some (g', ob') → holdsG ρ g' → ob'.isView = false → Disj F (C.F o'))
    (hd2 : holdsG ρ g → ob.isView = false → ∀ o' g' ob', Γ.obj o' = some (g', ob') → holdsG ρ g' → ob'.owned = true → Disj (C.F o') F)
    (hw : holdsG ρ g → ob.owned = true → ∀ b x, F b x → Wr b x ∨ w0.heap.size ≤ b) :
    Rel tab (Γ.setOb o (g, ob)) ρ tm w (C.set o A N K F) (kn.addO o) Wr w0 := by
  have hne : ∀ o', kn.o o' → o' ≠ o := fun o' h1 e => ho (e ▸ h1)
  have hmono : ∀ o', kn.o o' → (kn.addO o).o o' := fun _ => .inl
  exact {
    tms := fun t g' sv ht => by
      obtain ⟨h1, h2⟩ := h.tms t g' sv ht
      exact ⟨fun hg => (h1 hg).mono hmono fun o' ho' => ⟨(Ctx.set_ne (hne o' ho')).1, (Ctx.set_ne (hne o' ho')).2.1, (Ctx.set_ne (hne o' ho')).2.2.1⟩, h2⟩
    obs := fun o' g' ob' h' => by
      by_cases e : o = o'
      · subst e
        rw [Gam.obj_setOb_self] at h'; cases h'
        exact ⟨.inr rfl, hver.mono hmono (fun _ => id), hob⟩
      · rw [Gam.obj_setOb_ne _ _ e] at h'
        obtain ⟨h1, h2, h3⟩ := h.obs o' g' ob' h'
        refine ⟨.inl h1, h2.mono hmono (fun _ => id), fun hg => ?_⟩
        refine ((h3 hg).mono hmono h1 (fun o' ho' => ⟨(Ctx.set_ne (hne o' ho')).1, (Ctx.set_ne (hne o' ho')).2.1, (Ctx.set_ne (hne o' ho')).2.2.1⟩) (Ctx.set_ne (hne o' h1)).2.2.2 ?_).congrObj ?_
        · intro par pd i j et d _ gp pet hp; exact (h.obs par gp _ hp).1
        · rintro par pd i j et d rfl gp pet hp hgp
          by_cases e2 : o = par
          · subst e2
            rw [Gam.obj_setOb_self] at hp; cases hp
            exact absurd h2.1 ho
          · rw [Gam.obj_setOb_ne _ _ e2] at hp; exact ⟨gp, hp, hgp⟩
    dis := fun a b ga gb oa ob' ha hb hga hgb hab hown hvw => by
      by_cases ea : o = a
      · subst ea
        rw [Gam.obj_setOb_self] at ha; cases ha
        rw [Gam.obj_setOb_ne _ _ hab] at hb
        have hkb := (h.obs b gb ob' hb).1
        rw [Ctx.set_self.2.2.2, (Ctx.set_ne (hne b hkb)).2.2.2]
        exact hd1 hga hown b gb ob' hb hgb hvw
      · rw [Gam.obj_setOb_ne _ _ ea] at ha
        have hka := (h.obs a ga oa ha).1
        rw [(Ctx.set_ne (hne a hka)).2.2.2]
        by_cases eb : o = b
        · subst eb
          rw [Gam.obj_setOb_self] at hb; cases hb
          rw [Ctx.set_self.2.2.2]
          exact hd2 hgb hvw a ga oa ha hga hown
        · rw [Gam.obj_setOb_ne _ _ eb] at hb
          rw [(Ctx.set_ne (hne b (h.obs b gb ob' hb).1)).2.2.2]
          exact h.dis a b ga gb oa ob' ha hb hga hgb hab hown hvw
    own := fun a ga oa ha hga hown b x hf => by
      by_cases ea : o = a
      · subst ea
        rw [Gam.obj_setOb_self] at ha; cases ha
        rw [Ctx.set_self.2.2.2] at hf
        exact hw hga hown b x hf
      · rw [Gam.obj_setOb_ne _ _ ea] at ha
        rw [(Ctx.set_ne (hne a (h.obs a ga oa ha).1)).2.2.2] at hf
        exact h.own a ga oa ha hga hown b x hf
    frm := h.frm }

/-- What may have turned between two worlds: the cells of a set, and what is new. -/
structure Turned (F : CS) (w w' : World) : Prop where
  size : w.heap.size ≤ w'.heap.size
  blk : ∀ b, b < w.heap.size → (∀ x, ¬ F b x) → w'.heap[b]? = w.heap[b]?
  cel : ∀ b x, b < w.heap.size → ¬ F b x → SameAt w w' b x
  os : w'.os = w.os
  tape : w'.tape = w.tape
  output : w'.output = w.output
theorem Grows.turned (h : Grows w w') (F : CS) : Turned F w w' := ⟨h.size, fun b hb _ => h.blk b hb, fun b _ hb _ => sameAt_of_blk (h.blk b hb), h.os, h.tape, h.output⟩
theorem Turned.trans {F : CS} {w'' : World} (h : Turned F w w') (k : Turned F w' w'') : Turned F w w'' where
  size := Nat.le_trans h.size k.size
  blk b hb hn := (k.blk b (Nat.lt_of_lt_of_le hb h.size) hn).trans (h.blk b hb hn)
  cel b x hb hn := by
    have h1 := h.cel b x hb hn
    have h2 := k.cel b x (Nat.lt_of_lt_of_le hb h.size) hn
    exact ⟨h2.1.trans h1.1, h2.2.trans h1.2⟩
  os := k.os.trans h.os
  tape := k.tape.trans h.tape
  output := k.output.trans h.output
theorem Turned.same {F G : CS} (h : Turned F w w') (hd : Disj F G) (hG : ∀ b x, G b x → b < w.heap.size) : SameOn w w' G :=
  fun b x hg => h.cel b x (hG b x hg) fun hf => hd b x hf hg
theorem Frame.turned {F : CS} (h : Frame Wr w0 w) (k : Turned F w w') (hF : ∀ b x, F b x → Wr b x ∨ w0.heap.size ≤ b) : Frame Wr w0 w' where
  size := Nat.le_trans h.size k.size
  blk b hb hn := (k.blk b (Nat.lt_of_lt_of_le hb h.size) fun x hf => (hF b x hf).elim (hn x) (by omega)).trans (h.blk b hb hn)
  cel b x hb hn := by
    have h1 := h.cel b x hb hn
    have h2 := k.cel b x (Nat.lt_of_lt_of_le hb h.size) fun hf => (hF b x hf).elim hn (by omega)
    exact ⟨h2.1.trans h1.1, h2.2.trans h1.2⟩
  os := k.os.trans h.os
  tape := k.tape.trans h.tape
  output := k.output.trans h.output

def Kn.le (kn kn' : Kn) : Prop := (∀ o, kn.o o → kn'.o o) ∧ (∀ x, kn.v x → kn'.v x)
theorem Kn.le.refl (kn : Kn) : kn.le kn := ⟨fun _ => id, fun _ => id⟩
theorem Kn.le_addO (kn : Kn) (o : Nat) : kn.le (kn.addO o) := ⟨fun _ => .inl, fun _ => id⟩
theorem Kn.le_addV (kn : Kn) (x : Nat) : kn.le (kn.addV x) := ⟨fun _ => id, fun _ => .inl⟩

theorem Rel.know (h : Rel tab Γ ρ tm w C kn Wr w0) (hk : kn.le kn') : Rel tab Γ ρ tm w C kn' Wr w0 where
  tms t g sv ht := ⟨fun hg => ((h.tms t g sv ht).1 hg).mono hk.1 fun _ _ => ⟨rfl, rfl, rfl⟩, (h.tms t g sv ht).2⟩
  obs o g ob ho := by
    obtain ⟨h1, h2, h3⟩ := h.obs o g ob ho
    exact ⟨hk.1 o h1, h2.mono hk.1 hk.2, fun hg => (h3 hg).mono hk.1 h1 (fun _ _ => ⟨rfl, rfl, rfl⟩) rfl fun par pd i j et d _ gp pet hp => (h.obs par gp _ hp).1⟩
  dis := h.dis
  own := h.own
  frm := h.frm

/-- An owned object is written. -/
theorem Rel.upd (h : Rel tab Γ ρ tm w C kn Wr w0) {o : Nat} {g : Grd} {ob ob' : Obj} (ho : Γ.obj o = some (g, ob)) (hg : holdsG ρ g) (hown : ob.owned = true)
    (ht : Turned (C.F o) w w') {F' : CS} {kn' : Kn} (hk : kn.le kn') (hver : ob'.verOk kn') (hnew : ∀ et x, ob' = .row true et (.var x) → ¬ kn.v x)
    (hob : ObRel tab (C.set o (C.A o) (C.N o) (C.K o) F') kn'.o ρ (Γ.setOb o (g, ob')) w' o ob')
    (hdj : ∀ o' g' ob'', o' ≠ o → Γ.obj o' = some (g', ob'') → holdsG ρ g' → ob''.isView = false → Disj F' (C.F o'))
    (hw : ∀ b x, F' b x → Wr b x ∨ w0.heap.size ≤ b) :
    Rel tab (Γ.setOb o (g, ob')) ρ tm w' (C.set o (C.A o) (C.N o) (C.K o) F') kn' Wr w0 := by
  have hANK : ∀ o', (C.set o (C.A o) (C.N o) (C.K o) F').A o' = C.A o' ∧ (C.set o (C.A o) (C.N o) (C.K o) F').N o' = C.N o' ∧ (C.set o (C.A o) (C.N o) (C.K o) F').K o' = C.K o' := by
    intro o'
    by_cases e : o' = o
    · subst e; exact ⟨Ctx.set_self.1, Ctx.set_self.2.1, Ctx.set_self.2.2.1⟩
    · exact ⟨(Ctx.set_ne e).1, (Ctx.set_ne e).2.1, (Ctx.set_ne e).2.2.1⟩
  have hvn : ob.isView = false := by cases ob <;> simp_all [Obj.owned, Obj.isView]
  have hsame : ∀ o' g' ob'', o' ≠ o → Γ.obj o' = some (g', ob'') → holdsG ρ g' → ob''.isView = false → SameOn w w' (C.F o') := by
    intro o' g' ob'' hne ho' hg' hv'
    exact ht.same (h.dis o o' g g' ob ob'' ho ho' hg hg' (Ne.symm hne) hown hv') fun b x hf => ((h.obs o' g' ob'' ho').2.2 hg').lt hv' hf
  exact {
    tms := fun t g' sv ht' => by
      obtain ⟨h1, h2⟩ := h.tms t g' sv ht'
      exact ⟨fun hg' => (h1 hg').mono hk.1 fun o' _ => hANK o', h2⟩
    obs := fun o' g' ob'' h' => by
      by_cases e : o = o'
      · subst e
        rw [Gam.obj_setOb_self] at h'; cases h'
        exact ⟨hk.1 _ (h.obs o g ob ho).1, hver, fun _ => hob⟩
      · rw [Gam.obj_setOb_ne _ _ e] at h'
        obtain ⟨h1, h2, h3⟩ := h.obs o' g' ob'' h'
        refine ⟨hk.1 _ h1, h2.mono hk.1 hk.2, fun hg' => ?_⟩
        have hr := h3 hg'
        have hne : o' ≠ o := Ne.symm e
        have hr' : ObRel tab C kn.o ρ (Γ.setOb o (g, ob')) w' o' ob'' := by
          cases hv : ob''.isView with
          | false => exact (hr.frame hv (hsame o' g' ob'' hne h' hg' hv)).congrObj fun par pd i j et d he => (by rw [he] at hv; cases hv)
          | true =>
            cases ob'' with
            | row => cases hv
            | box => cases hv
            | view par pd i j et d =>
              by_cases e2 : o = par
              · subst e2
                intro gp pet hp _
                rw [Gam.obj_setOb_self] at hp; cases hp
                obtain ⟨_, x, hx1, hx2⟩ := h2
                exact absurd hx2 (hnew pet x (by rw [hx1]))
              · refine ObRel.congrObj (Γ := Γ) ?_ fun par' pd' i' j' et' d' he gp pet hp hgp => ?_
                · exact hr.viewFrame (fun gp pet hp hgp => (h.obs par gp _ hp).2.2 hgp) fun gp pet hp hgp => hsame par gp _ (Ne.symm e2) hp hgp rfl
                · cases he; rw [Gam.obj_setOb_ne _ _ e2] at hp; exact ⟨gp, hp, hgp⟩
        exact hr'.mono hk.1 h1 (fun x _ => hANK x) (Ctx.set_ne hne).2.2.2 fun par pd i j et d he gp pet hp => (by
          rw [he] at h2; exact h2.1)
    dis := fun a b ga gb oa ob'' ha hb hga hgb hab hoa hvb => by
      by_cases ea : o = a
      · subst ea
        rw [Gam.obj_setOb_self] at ha; cases ha
        rw [Gam.obj_setOb_ne _ _ hab] at hb
        rw [Ctx.set_self.2.2.2, (Ctx.set_ne (Ne.symm hab)).2.2.2]
        exact hdj b gb ob'' (Ne.symm hab) hb hgb hvb
      · rw [Gam.obj_setOb_ne _ _ ea] at ha
        rw [(Ctx.set_ne (Ne.symm ea)).2.2.2]
        by_cases eb : o = b
        · subst eb
          rw [Ctx.set_self.2.2.2]
          exact (hdj a ga oa (Ne.symm ea) ha hga (by cases oa <;> simp_all [Obj.owned, Obj.isView])).symm
        · rw [Gam.obj_setOb_ne _ _ eb] at hb
          rw [(Ctx.set_ne (Ne.symm eb)).2.2.2]
          exact h.dis a b ga gb oa ob'' ha hb hga hgb hab hoa hvb
    own := fun a ga oa ha hga hoa b x hf => by
      by_cases ea : o = a
      · subst ea
        rw [Ctx.set_self.2.2.2] at hf
        exact hw b x hf
      · rw [Gam.obj_setOb_ne _ _ ea] at ha
        rw [(Ctx.set_ne (Ne.symm ea)).2.2.2] at hf
        exact h.own a ga oa ha hga hoa b x hf
    frm := h.frm.turned ht (h.own o g ob ho hg hown) }

end Gp
