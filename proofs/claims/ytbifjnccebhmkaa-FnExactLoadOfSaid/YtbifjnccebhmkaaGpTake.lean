/- Gp, part 15b: a nested row taken out of an owned row, and put back. -/
import Derived.Test.YtbifjnccebhmkaaGpOp12
set_option linter.unusedVariables false
set_option linter.unusedSimpArgs false
namespace Gp
open Go
variable {tab : Tab} {Γ : Gam} {ρ : Env} {tm : Array Value} {w w' : World} {C C' : Ctx} {kn kn' : Kn} {Wr : CS} {w0 : World}

/-- An object is told anew; memory stands. -/
theorem Rel.re (h : Rel tab Γ ρ tm w C kn Wr w0) {o : Nat} {g : Grd} {ob' : Obj} (hko : kn.o o)
    {F' : CS} {kn' : Kn} (hk : kn.le kn') (hver : ob'.verOk kn') (hnew : ∀ et x, ob' = .row true et (.var x) → ¬ kn.v x)
    (hob : holdsG ρ g → ObRel tab (C.set o (C.A o) (C.N o) (C.K o) F') kn'.o ρ (Γ.setOb o (g, ob')) w o ob')
    (hdj : holdsG ρ g → ob'.isView = false → ∀ o' g' ob'', o' ≠ o → Γ.obj o' = some (g', ob'') → holdsG ρ g' → ob''.isView = false → (ob'.owned = true ∨ ob''.owned = true) → Disj F' (C.F o'))
    (hw : holdsG ρ g → ob'.owned = true → ∀ b x, F' b x → Wr b x ∨ w0.heap.size ≤ b) :
    Rel tab (Γ.setOb o (g, ob')) ρ tm w (C.set o (C.A o) (C.N o) (C.K o) F') kn' Wr w0 := by
  have hANK : ∀ o', (C.set o (C.A o) (C.N o) (C.K o) F').A o' = C.A o' ∧ (C.set o (C.A o) (C.N o) (C.K o) F').N o' = C.N o' ∧ (C.set o (C.A o) (C.N o) (C.K o) F').K o' = C.K o' := by
    intro o'
    by_cases e : o' = o
    · subst e; exact ⟨Ctx.set_self.1, Ctx.set_self.2.1, Ctx.set_self.2.2.1⟩
    · exact ⟨(Ctx.set_ne e).1, (Ctx.set_ne e).2.1, (Ctx.set_ne e).2.2.1⟩
  exact {
    tms := fun t g' sv ht' => by
      obtain ⟨h1, h2⟩ := h.tms t g' sv ht'
      exact ⟨fun hg' => (h1 hg').mono hk.1 fun o' _ => hANK o', h2⟩
    obs := fun o' g' ob'' h' => by
      by_cases e : o = o'
      · subst e
        rw [Gam.obj_setOb_self] at h'; cases h'
        exact ⟨hk.1 _ hko, hver, hob⟩
      · rw [Gam.obj_setOb_ne _ _ e] at h'
        obtain ⟨h1, h2, h3⟩ := h.obs o' g' ob'' h'
        refine ⟨hk.1 _ h1, h2.mono hk.1 hk.2, fun hg' => ?_⟩
        have hr := h3 hg'
        have hne : o' ≠ o := Ne.symm e
        have hr' : ObRel tab C kn.o ρ (Γ.setOb o (g, ob')) w o' ob'' := by
          cases hv : ob''.isView with
          | false => exact hr.congrObj fun par pd i j et d he => (by rw [he] at hv; cases hv)
          | true =>
            cases ob'' with
            | row => cases hv
            | box => cases hv
            | view par pd i j et d =>
              by_cases e2 : o = par
              · subst e2
                intro gp pet hp _
                rw [Gam.obj_setOb_self] at hp; cases hp
                obtain ⟨_, x, hx1, hx2⟩ := h2
                exact absurd hx2 (hnew pet x (by rw [hx1]))
              · refine ObRel.congrObj (Γ := Γ) hr fun par' pd' i' j' et' d' he gp pet hp hgp => ?_
                cases he; rw [Gam.obj_setOb_ne _ _ e2] at hp; exact ⟨gp, hp, hgp⟩
        exact hr'.mono hk.1 h1 (fun x _ => hANK x) (Ctx.set_ne hne).2.2.2 fun par pd i j et d he gp pet hp => (by
          rw [he] at h2; exact h2.1)
    dis := fun a b ga gb oa ob'' ha hb hga hgb hab hoa hvb => by
      by_cases ea : o = a
      · subst ea
        rw [Gam.obj_setOb_self] at ha; cases ha
        rw [Gam.obj_setOb_ne _ _ hab] at hb
        rw [Ctx.set_self.2.2.2, (Ctx.set_ne (Ne.symm hab)).2.2.2]
        exact hdj hga (by cases ob' <;> simp_all [Obj.owned, Obj.isView]) b gb ob'' (Ne.symm hab) hb hgb hvb (.inl hoa)
      · rw [Gam.obj_setOb_ne _ _ ea] at ha
        rw [(Ctx.set_ne (Ne.symm ea)).2.2.2]
        by_cases eb : o = b
        · subst eb
          rw [Gam.obj_setOb_self] at hb; cases hb
          rw [Ctx.set_self.2.2.2]
          exact (hdj hgb hvb a ga oa (Ne.symm ea) ha hga (by cases oa <;> simp_all [Obj.owned, Obj.isView]) (.inr hoa)).symm
        · rw [Gam.obj_setOb_ne _ _ eb] at hb
          rw [(Ctx.set_ne (Ne.symm eb)).2.2.2]
          exact h.dis a b ga gb oa ob'' ha hb hga hgb hab hoa hvb
    own := fun a ga oa ha hga hoa b x hf => by
      by_cases ea : o = a
      · subst ea
        rw [Gam.obj_setOb_self] at ha; cases ha
        rw [Ctx.set_self.2.2.2] at hf
        exact hw hga hoa b x hf
      · rw [Gam.obj_setOb_ne _ _ ea] at ha
        rw [(Ctx.set_ne (Ne.symm ea)).2.2.2] at hf
        exact h.own a ga oa ha hga hoa b x hf
    frm := h.frm }

/-- The data of a row, one cell of it replaced. -/
def cellPut (k j : Nat) (pd i x : Exp) : Exp := if Nat.beq k 1 then .tri .setI pd i x else .tri .setI pd i (.bin (.setC j) (.bin .idx pd i) x)
theorem cellPut_den {k j m : Nat} {pd i x : Exp} {rows : List T} (hp : den ρ pd = .list rows) (hi : den ρ i = .int m) : den ρ (cellPut k j pd i x) = .list (setT k rows m j (den ρ x)) := by
  have hm : ¬ ((m : Int) < 0) := by omega
  unfold cellPut setT
  by_cases hk : k = 1
  · subst hk
    rw [if_pos (show Nat.beq 1 1 = true from rfl), if_pos rfl]
    simp only [den, Tr.den, hp, hi, T.setI, if_neg hm, Int.toNat_natCast]
  · rw [if_neg (fun e => hk (Nat.eq_of_beq_eq_true e)), if_neg hk]
    simp only [den, Tr.den, B.den, hp, hi, T.setI, T.idx, if_neg hm, Int.toNat_natCast]
theorem holeE_den {o : Nat} : den ρ (holeE o) = .hole := rfl

/-- What takes a nested row out: the parent with a hole, the row itself, and a tie to where it stood. -/
theorem Rel.takeV (h : Rel tab Γ ρ tm w C kn Wr w0) {o par q x1 x2 : Nat} {pd i d : Exp} {j : Nat} {et pet : TypeId} {ti : TI} (ho : Γ.obj o = some ([], .view par pd i j et d)) (hd : isHoleE d = false)
    (hp : Γ.obj par = some ([], .row true pet pd)) (hti : tab.get pet = some ti) (hx1 : ρ x1 = den ρ (cellPut ti.size j pd i (holeE o))) (hx2 : ρ x2 = den ρ d)
    (hn1 : ¬ kn.v x1) (hn2 : ¬ kn.v x2) (hne : x1 ≠ x2) (hq : ¬ kn.o q) (hop : o ≠ par) :
    ∃ C', Rel tab (((Γ.setOb par ([], .row true pet (.var x1))).setOb o ([], .row true et (.var x2))).setOb q ([], .view par (.var x1) i j et (holeE o))) ρ tm w C' (((kn.addV x1).addV x2).addO q) Wr w0 ∧
      (∀ o', kn.o o' → C'.A o' = C.A o' ∧ C'.N o' = C.N o' ∧ C'.K o' = C.K o') ∧ C'.A q = C.A o ∧ C'.N q = C.N o ∧ C'.K q = C.K o := by
  obtain ⟨hko, _, hvr⟩ := h.obs o [] _ ho
  obtain ⟨hkp, hvp, hpr⟩ := h.obs par [] _ hp
  have hkq : q ≠ o := fun e => hq (e ▸ hko)
  have hkqp : q ≠ par := fun e => hq (e ▸ hkp)
  obtain ⟨m, b, base, rows, a1, a2, a3, a4, a5, ⟨ti', t1, t2⟩, a8⟩ := hvr trivial [] pet hp trivial
  obtain ⟨rs, a5, a6, a7⟩ := a5.resolve_left (fun ⟨o0, c, _⟩ => by rw [c] at hd; cases hd)
  rw [hti] at t1; cases t1
  have hsz : tab.sz pet = ti.size := by simp [Tab.sz, hti]
  rw [hsz] at a7 a8
  obtain ⟨rows', r1, r2⟩ := hpr trivial
  rw [a4] at r1; cases r1
  rw [a3] at r2
  obtain ⟨v, Fn, Fr, k1, k2, k3, k4, k5, k6⟩ := r2.take hti a2 t2
  rw [k1] at a8; cases a8
  rw [a7] at k2
  have hdisP : ∀ o' g' ob'', o' ≠ par → Γ.obj o' = some (g', ob'') → holdsG ρ g' → ob''.isView = false → Disj (C.F par) (C.F o') :=
    fun o' g' ob'' hne' ho' hg' hv' => h.dis par o' [] g' _ ob'' hp ho' trivial hg' (Ne.symm hne') rfl hv'
  have hownP := h.own par [] _ hp trivial rfl
  -- the parent, with a hole
  have s1 := h.re (g := []) (ob' := .row true pet (.var x1)) (F' := Fr) (kn' := kn.addV x1) hkp ⟨fun _ => id, fun _ => .inl⟩ ⟨x1, rfl, .inr rfl⟩
    (fun et' x e => by cases e; exact hn1)
    (fun _ => by
      refine ⟨_, (hx1.trans (cellPut_den a4 a1)), ?_⟩
      rw [Ctx.set_self.1, Ctx.set_self.2.1, Ctx.set_self.2.2.1, Ctx.set_self.2.2.2, a3, holeE_den]
      exact k6)
    (fun _ _ o' g' ob'' hne' ho' hg' hv' _ => (hdisP o' g' ob'' hne' ho' hg' hv').sub k5 (Sub.refl _))
    (fun _ _ b x hf => hownP b x (k5 b x hf))
  -- the row itself
  have eo : ∀ {F : CS}, (C.set par (C.A par) (C.N par) (C.K par) F).A o = C.A o ∧ (C.set par (C.A par) (C.N par) (C.K par) F).N o = C.N o ∧ (C.set par (C.A par) (C.N par) (C.K par) F).K o = C.K o :=
    ⟨(Ctx.set_ne hop).1, (Ctx.set_ne hop).2.1, (Ctx.set_ne hop).2.2.1⟩
  have s2 := s1.re (o := o) (g := []) (ob' := .row true et (.var x2)) (F' := Fn) (kn' := (kn.addV x1).addV x2) hko ⟨fun _ => id, fun _ => .inl⟩ ⟨x2, rfl, .inr rfl⟩
    (fun et' x e hk => by
      cases e
      rcases hk with hk | hk
      · exact hn2 hk
      · exact hne hk.symm)
    (fun _ => by
      refine ⟨rs, hx2.trans a5, ?_⟩
      rw [Ctx.set_self.1, Ctx.set_self.2.1, Ctx.set_self.2.2.1, Ctx.set_self.2.2.2, eo.1, eo.2.1, eo.2.2]
      exact k2)
    (fun _ _ o' g' ob'' hne' ho' hg' hv' _ => by
      by_cases e : o' = par
      · subst e
        rw [Ctx.set_self.2.2.2]; exact k3
      · rw [Gam.obj_setOb_ne _ _ (Ne.symm e)] at ho'
        rw [(Ctx.set_ne e).2.2.2]
        exact (hdisP o' g' ob'' e ho' hg' hv').sub k4 (Sub.refl _))
    (fun _ _ b x hf => hownP b x (k4 b x hf))
  -- the tie
  have s3 := s2.addOb (o := q) (g := []) (ob := .view par (.var x1) i j et (holeE o)) (A := C.A o) (N := C.N o) (K := C.K o) (F := Emp) (show ¬ kn.o q from hq) ⟨hkp, x1, rfl, .inl (.inr rfl)⟩
    (fun _ => by
      intro gp pet' hp' _
      rw [Gam.obj_setOb_ne _ _ hkqp, Gam.obj_setOb_ne _ _ hop, Gam.obj_setOb_self] at hp'
      cases hp'
      refine ⟨m, b, base, _, a1, ?_, ?_, hx1.trans (cellPut_den a4 a1), .inl ⟨o, rfl, .inl hko, ?_, ?_, ?_⟩, ⟨ti, hti, t2⟩, ?_⟩
      · rw [(Ctx.set_ne (Ne.symm hkqp)).2.1, (Ctx.set_ne (Ne.symm hop)).2.1, Ctx.set_self.2.1]; exact a2
      · rw [(Ctx.set_ne (Ne.symm hkqp)).1, (Ctx.set_ne (Ne.symm hop)).1, Ctx.set_self.1]; exact a3
      · rw [Ctx.set_self.1, (Ctx.set_ne (Ne.symm hkq)).1, Ctx.set_self.1]; exact eo.1.symm
      · rw [Ctx.set_self.2.1, (Ctx.set_ne (Ne.symm hkq)).2.1, Ctx.set_self.2.1]; exact eo.2.1.symm
      · rw [Ctx.set_self.2.2.1, (Ctx.set_ne (Ne.symm hkq)).2.2.1, Ctx.set_self.2.2.1]; exact eo.2.2.symm
      · rw [Ctx.set_self.1, Ctx.set_self.2.1, Ctx.set_self.2.2.1, hsz]; exact k1)
    (fun _ hh => by cases hh) (fun _ hh => by cases hh) (fun _ hh => by cases hh)
  refine ⟨_, s3, fun o' ho' => ?_, ?_, ?_, ?_⟩
  · have e1 : o' ≠ q := fun e => hq (e ▸ ho')
    rw [(Ctx.set_ne e1).1, (Ctx.set_ne e1).2.1, (Ctx.set_ne e1).2.2.1]
    by_cases e2 : o' = o
    · subst e2
      rw [Ctx.set_self.1, Ctx.set_self.2.1, Ctx.set_self.2.2.1]; exact eo
    · rw [(Ctx.set_ne e2).1, (Ctx.set_ne e2).2.1, (Ctx.set_ne e2).2.2.1]
      by_cases e3 : o' = par
      · subst e3; exact ⟨Ctx.set_self.1, Ctx.set_self.2.1, Ctx.set_self.2.2.1⟩
      · exact ⟨(Ctx.set_ne e3).1, (Ctx.set_ne e3).2.1, (Ctx.set_ne e3).2.2.1⟩
  · exact Ctx.set_self.1
  · exact Ctx.set_self.2.1
  · exact Ctx.set_self.2.2.1

/-- The row is put back where it stood. -/
theorem Rel.putV (h : Rel tab Γ ρ tm w C kn Wr w0) {o par q x : Nat} {pd i d2 : Exp} {j : Nat} {et pet : TypeId} {ti : TI} (hq : Γ.obj q = some ([], .view par pd i j et (holeE o)))
    (hp : Γ.obj par = some ([], .row true pet pd)) (ho : Γ.obj o = some ([], .row true et d2)) (hti : tab.get pet = some ti) (hx : ρ x = den ρ (cellPut ti.size j pd i d2))
    (hn : ¬ kn.v x) (hop : o ≠ par) (hoq : o ≠ q) (hqp : q ≠ par) :
    ∃ C', Rel tab ((((Γ.delOb q).delOb o).setOb par ([], .row true pet (.var x))).setOb o ([], .view par (.var x) i j et d2)) ρ tm w C' (kn.addV x) Wr w0 ∧
      (∀ o', C'.A o' = C.A o' ∧ C'.N o' = C.N o' ∧ C'.K o' = C.K o') := by
  obtain ⟨hkq, _, hqr⟩ := h.obs q [] _ hq
  obtain ⟨hkp, hvp, hpr⟩ := h.obs par [] _ hp
  obtain ⟨hko, hvo, hor⟩ := h.obs o [] _ ho
  obtain ⟨m, b, base, rows, a1, a2, a3, a4, a5, ⟨ti', t1, t2⟩, a8⟩ := hqr trivial [] pet hp trivial
  obtain ⟨hA, hN, hK⟩ : C.A q = C.A o ∧ C.N q = C.N o ∧ C.K q = C.K o := by
    rcases a5 with ⟨o0, c1, _, c3⟩ | ⟨rs, c1, _⟩
    · have : o = o0 := by injection c1 with c1 _; injection c1
      subst this; exact c3
    · cases c1
  rw [hti] at t1; cases t1
  have hsz : tab.sz pet = ti.size := by simp [Tab.sz, hti]
  rw [hsz, hA, hN, hK] at a8
  obtain ⟨rows', r1, r2⟩ := hpr trivial
  rw [a4] at r1; cases r1
  rw [a3] at r2
  obtain ⟨rs, e1, e2⟩ := hor trivial
  have hdj : Disj (C.F par) (C.F o) := h.dis par o [] [] _ _ hp ho trivial trivial (Ne.symm hop) rfl rfl
  obtain ⟨F2, f1, f2⟩ := r2.put (w' := w) hti a2 t2 a8 rfl (fun _ _ _ _ => ⟨rfl, rfl⟩) e2 hdj
  have hwf := r2
  have hcell : cellT ti.size (setT ti.size rows m j (.list rs)) m j = .list rs := by
    cases r2 with
    | @sl et ti' rows _ n c b' off' vs Fs F hti' hsz' hn' hc ha hwf hcell hrel hown hdis hdr hF =>
      rw [hti] at hti'; cases hti'
      refine cellT_set_self (by omega) ?_ hwf
      have := List.getD_some_lt t2
      rw [hsz']; exact this
  have hrs : rs.length = C.N o := by
    cases e2 with
    | sl hti' hsz' hn' => exact hn'
  -- without the row and the tie
  have d1 := (h.delOb q).delOb o
  have hobj : ∀ o' g' ob'', ((Γ.delOb q).delOb o).obj o' = some (g', ob'') → o' ≠ q ∧ o' ≠ o ∧ Γ.obj o' = some (g', ob'') := by
    intro o' g' ob'' h'
    have n1 : o' ≠ o := fun e => by subst e; rw [Gam.obj_delOb_self] at h'; cases h'
    rw [Gam.obj_delOb_ne _ (Ne.symm n1)] at h'
    have n2 : o' ≠ q := fun e => by subst e; rw [Gam.obj_delOb_self] at h'; cases h'
    rw [Gam.obj_delOb_ne _ (Ne.symm n2)] at h'
    exact ⟨n2, n1, h'⟩
  have s1 := d1.re (o := par) (g := []) (ob' := .row true pet (.var x)) (F' := F2) (kn' := kn.addV x) hkp ⟨fun _ => id, fun _ => .inl⟩ ⟨x, rfl, .inr rfl⟩
    (fun et' y e => by cases e; exact hn)
    (fun _ => by
      refine ⟨_, (hx.trans (cellPut_den a4 a1)), ?_⟩
      rw [Ctx.set_self.1, Ctx.set_self.2.1, Ctx.set_self.2.2.1, Ctx.set_self.2.2.2, a3, e1]
      exact f2)
    (fun _ _ o' g' ob'' hne' ho' hg' hv' _ => by
      obtain ⟨n1, n2, n3⟩ := hobj o' g' ob'' ho'
      have q1 := h.dis par o' [] g' _ ob'' hp n3 trivial hg' (Ne.symm hne') rfl hv'
      have q2 := h.dis o o' [] g' _ ob'' ho n3 trivial hg' (Ne.symm n2) rfl hv'
      intro b x hf hf'
      exact (f1 b x hf).elim (fun z => q1 b x z hf') (fun z => q2 b x z hf'))
    (fun _ _ b x hf => (f1 b x hf).elim (h.own par [] _ hp trivial rfl b x) (h.own o [] _ ho trivial rfl b x))
  have eo : ∀ o' {F : CS}, (C.set par (C.A par) (C.N par) (C.K par) F).A o' = C.A o' ∧ (C.set par (C.A par) (C.N par) (C.K par) F).N o' = C.N o' ∧ (C.set par (C.A par) (C.N par) (C.K par) F).K o' = C.K o' := by
    intro o' F
    by_cases e : o' = par
    · subst e; exact ⟨Ctx.set_self.1, Ctx.set_self.2.1, Ctx.set_self.2.2.1⟩
    · exact ⟨(Ctx.set_ne e).1, (Ctx.set_ne e).2.1, (Ctx.set_ne e).2.2.1⟩
  have s2 := s1.re (o := o) (g := []) (ob' := .view par (.var x) i j et d2) (F' := Emp) (kn' := kn.addV x) hko (Kn.le.refl _) ⟨hkp, x, rfl, .inr rfl⟩
    (fun et' y e => by cases e)
    (fun _ => by
      intro gp pet' hp' _
      rw [Gam.obj_setOb_ne _ _ hop, Gam.obj_setOb_self] at hp'
      cases hp'
      refine ⟨m, b, base, _, a1, ?_, ?_, hx.trans (cellPut_den a4 a1), .inr ⟨rs, e1, ?_, ?_⟩, ⟨ti, hti, t2⟩, ?_⟩
      · rw [(Ctx.set_ne (Ne.symm hop)).2.1, (eo par).2.1]; exact a2
      · rw [(Ctx.set_ne (Ne.symm hop)).1, (eo par).1]; exact a3
      · rw [Ctx.set_self.2.1, (eo o).2.1]; exact hrs
      · rw [hsz, e1]; exact hcell
      · rw [Ctx.set_self.1, Ctx.set_self.2.1, Ctx.set_self.2.2.1, (eo o).1, (eo o).2.1, (eo o).2.2, hsz]; exact a8)
    (fun _ hh => by cases hh) (fun _ hh => by cases hh)
  refine ⟨_, s2, fun o' => ?_⟩
  by_cases e : o' = o
  · subst e
    rw [Ctx.set_self.1, Ctx.set_self.2.1, Ctx.set_self.2.2.1]; exact eo _
  · rw [(Ctx.set_ne e).1, (Ctx.set_ne e).2.1, (Ctx.set_ne e).2.2.1]; exact eo _

/-- Another cell of the same element: what is told of it stands under the parent's new data. -/
theorem Rel.sib (h : Rel tab Γ ρ tm w C kn Wr w0) {Γ' : Gam} (h' : Rel tab Γ' ρ tm w C' kn' Wr w0) (hk : kn.le kn') (hC : ∀ o', kn.o o' → C'.A o' = C.A o' ∧ C'.N o' = C.N o' ∧ C'.K o' = C.K o')
    {s par x : Nat} {pd i d t : Exp} {j j2 : Nat} {et pet : TypeId} {ti : TI} (hs : Γ.obj s = some ([], .view par pd i j2 et d)) (hp : Γ.obj par = some ([], .row true pet pd))
    (hp' : Γ'.obj par = some ([], .row true pet (.var x))) (hti : tab.get pet = some ti) (hx : ρ x = den ρ (cellPut ti.size j pd i t)) (hkx : kn'.v x) (hj : j < ti.size) (hjj : j2 ≠ j) (hsp : s ≠ par) :
    ∃ C'', Rel tab (Γ'.setOb s ([], .view par (.var x) i j2 et d)) ρ tm w C'' kn' Wr w0 ∧ (∀ o', C''.A o' = C'.A o' ∧ C''.N o' = C'.N o' ∧ C''.K o' = C'.K o') := by
  obtain ⟨hks, _, hsr⟩ := h.obs s [] _ hs
  obtain ⟨hkp, hvp, hpr⟩ := h.obs par [] _ hp
  obtain ⟨m, b, base, rows, a1, a2, a3, a4, a5, ⟨ti', t1, t2⟩, a8⟩ := hsr trivial [] pet hp trivial
  rw [hti] at t1; cases t1
  have hsz : tab.sz pet = ti.size := by simp [Tab.sz, hti]
  obtain ⟨rows', r1, r2⟩ := hpr trivial
  rw [a4] at r1; cases r1
  have hx' := hx.trans (cellPut_den a4 a1)
  have s1 := h'.re (o := s) (g := []) (ob' := .view par (.var x) i j2 et d) (F' := Emp) (kn' := kn') (hk.1 _ hks) (Kn.le.refl _) ⟨hk.1 _ hkp, x, rfl, hkx⟩
    (fun et' y e => by cases e)
    (fun _ => by
      intro gp pet' hp2 _
      rw [Gam.obj_setOb_ne _ _ hsp, hp'] at hp2
      cases hp2
      refine ⟨m, b, base, _, a1, ?_, ?_, hx', ?_, ⟨ti, hti, t2⟩, ?_⟩
      · rw [(Ctx.set_ne (Ne.symm hsp)).2.1, (hC par hkp).2.1]; exact a2
      · rw [(Ctx.set_ne (Ne.symm hsp)).1, (hC par hkp).1]; exact a3
      · refine a5.imp (fun ⟨o0, c1, c2, c3, c4, c5⟩ => ?_) fun ⟨rs, c1, c2, c3⟩ => ⟨rs, c1, ?_, ?_⟩
        · have hz : ∀ {F : CS}, (C'.set s (C'.A s) (C'.N s) (C'.K s) F).A o0 = C'.A o0 ∧ (C'.set s (C'.A s) (C'.N s) (C'.K s) F).N o0 = C'.N o0 ∧ (C'.set s (C'.A s) (C'.N s) (C'.K s) F).K o0 = C'.K o0 := by
            intro F
            by_cases e : o0 = s
            · subst e; exact ⟨Ctx.set_self.1, Ctx.set_self.2.1, Ctx.set_self.2.2.1⟩
            · exact ⟨(Ctx.set_ne e).1, (Ctx.set_ne e).2.1, (Ctx.set_ne e).2.2.1⟩
          obtain ⟨g1, g2, g3⟩ := hC o0 c2
          obtain ⟨f1, f2, f3⟩ := hC s hks
          refine ⟨o0, c1, hk.1 _ c2, ?_, ?_, ?_⟩
          · rw [Ctx.set_self.1, hz.1, f1, g1]; exact c3
          · rw [Ctx.set_self.2.1, hz.2.1, f2, g2]; exact c4
          · rw [Ctx.set_self.2.2.1, hz.2.2, f3, g3]; exact c5
        · rw [Ctx.set_self.2.1, (hC s hks).2.1]; exact c2
        · rw [hsz] at c3 ⊢
          rw [← c3]
          have hj2 : j2 < ti.size := by
            have := List.getD_some_lt t2
            have hs2 : ti.size = ti.cks.length := by
              cases r2 with
              | @sl et ti' rows _ n c b' off' vs Fs F hti' hsz' hn' hc ha hwf hcell hrel hown hdis hdr hF =>
                rw [hti] at hti'; cases hti'; exact hsz'
            omega
          cases r2 with
          | @sl et ti' rows _ n c b' off' vs Fs F hti' hsz' hn' hc ha hwf hcell hrel hown hdis hdr hF =>
            rw [hti] at hti'; cases hti'
            exact cellT_set_ne (by omega) hj hj2 hwf (fun e => hjj (by cases e; rfl))
      · rw [Ctx.set_self.1, Ctx.set_self.2.1, Ctx.set_self.2.2.1, (hC s hks).1, (hC s hks).2.1, (hC s hks).2.2]; exact a8)
    (fun _ hh => by cases hh) (fun _ hh => by cases hh)
  refine ⟨_, s1, fun o' => ?_⟩
  by_cases e : o' = s
  · subst e; exact ⟨Ctx.set_self.1, Ctx.set_self.2.1, Ctx.set_self.2.2.1⟩
  · exact ⟨(Ctx.set_ne e).1, (Ctx.set_ne e).2.1, (Ctx.set_ne e).2.2.1⟩

abbrev Upd := Nat × Option (Grd × Obj)
/-- The other cells of an element that objects tell of. -/
def sibs (Γ : Gam) (par : Nat) (pd i : Exp) (j x : Nat) (not : List Nat) : List Nat → List Upd
  | [] => []
  | s :: r => match Γ.obj s with
    | some ([], .view par' pd' i' j2 et d) => if Nat.beq par' par && pd' == pd && i' == i && decide (j2 ≠ j) && decide (s ≠ par) && decide (s ∉ not) then (s, some ([], .view par (.var x) i j2 et d)) :: sibs Γ par pd i j x not r else sibs Γ par pd i j x not r
    | _ => sibs Γ par pd i j x not r

theorem obj_sibs {Γ : Gam} {par x : Nat} {pd i : Exp} {j : Nat} {not : List Nat} : ∀ (l : List Nat) (Γ' : Gam) (y : Nat), (y = par ∨ y ∈ not) → (Γ'.appOb (sibs Γ par pd i j x not l)).obj y = Γ'.obj y
  | [], Γ', y, _ => rfl
  | s :: r, Γ', y, hy => by
    simp only [sibs]
    split
    · split
      · rename_i hc
        simp only [Bool.and_eq_true, decide_eq_true_eq] at hc
        simp only [Gam.appOb]
        rw [obj_sibs r _ y hy, Gam.obj_setOb_ne]
        rintro rfl
        rcases hy with hy | hy
        · exact hc.1.2 hy
        · exact hc.2 hy
      · exact obj_sibs r _ y hy
    · exact obj_sibs r _ y hy

theorem Rel.sibs (h : Rel tab Γ ρ tm w C kn Wr w0) (hk : kn.le kn') {par x : Nat} {pd i t : Exp} {j : Nat} {pet : TypeId} {ti : TI} {not : List Nat} (hp : Γ.obj par = some ([], .row true pet pd))
    (hti : tab.get pet = some ti) (hx : ρ x = den ρ (cellPut ti.size j pd i t)) (hkx : kn'.v x) (hj : j < ti.size) : ∀ (l : List Nat) (Γ' : Gam) (C' : Ctx), Rel tab Γ' ρ tm w C' kn' Wr w0 →
      (∀ o', kn.o o' → C'.A o' = C.A o' ∧ C'.N o' = C.N o' ∧ C'.K o' = C.K o') → Γ'.obj par = some ([], .row true pet (.var x)) →
      ∃ C'', Rel tab (Γ'.appOb (sibs Γ par pd i j x not l)) ρ tm w C'' kn' Wr w0 ∧ (∀ o', C''.A o' = C'.A o' ∧ C''.N o' = C'.N o' ∧ C''.K o' = C'.K o')
  | [], Γ', C', h', hC, hp' => ⟨C', h', fun _ => ⟨rfl, rfl, rfl⟩⟩
  | s :: r, Γ', C', h', hC, hp' => by
    simp only [Gp.sibs]
    split
    · rename_i par' pd' i' j2 et d hs
      split
      · rename_i hc
        simp only [Bool.and_eq_true, decide_eq_true_eq, beq_iff_eq] at hc
        obtain ⟨⟨⟨⟨⟨c1, c2⟩, c3⟩, c4⟩, c5⟩, _⟩ := hc
        have c1 := Nat.eq_of_beq_eq_true c1
        subst c1 c2 c3
        obtain ⟨C2, q1, q2⟩ := h.sib h' hk hC hs hp hp' hti hx hkx hj c4 c5
        obtain ⟨C3, q3, q4⟩ := h.sibs hk hp hti hx hkx hj r _ C2 q1 (fun o' ho' => by
          obtain ⟨y1, y2, y3⟩ := q2 o'
          obtain ⟨z1, z2, z3⟩ := hC o' ho'
          exact ⟨y1.trans z1, y2.trans z2, y3.trans z3⟩) (by rw [Gam.obj_setOb_ne _ _ c5]; exact hp')
        exact ⟨C3, q3, fun o' => by
          obtain ⟨y1, y2, y3⟩ := q2 o'
          obtain ⟨z1, z2, z3⟩ := q4 o'
          exact ⟨z1.trans y1, z2.trans y2, z3.trans y3⟩⟩
      · exact h.sibs hk hp hti hx hkx hj r Γ' C' h' hC hp'
    · exact h.sibs hk hp hti hx hkx hj r Γ' C' h' hC hp'
end Gp
