/- Gp, part 28: where ways meet; a function's end. -/
import Derived.Test.YtbifjnccebhmkaaGpCtl1
set_option linter.unusedVariables false
set_option linter.unusedSimpArgs false
namespace Gp
open Go

/-- A row that was taken out of another one, and where it stood. -/
structure TieJ where
  q : Nat
  par : Nat
  pd : Exp
  i : Exp
  j : Nat
  et : TypeId
  o : Nat
  deriving Repr, Inhabited
structure Join where
  Γ : Gam
  nb : Nat
  cnt : Nat
  no : Nat
  ties : List TieJ := []
  deriving Repr, Inhabited
def TieJ.upd (t : TieJ) : Nat × Option (Grd × Obj) := (t.q, some ([], .view t.par t.pd t.i t.j t.et (holeE t.o)))
def Join.full (J : Join) : Gam := J.Γ.appOb (J.ties.map TieJ.upd)
def obsOf (Γ : Gam) : Obs := Γ.ob.map fun p => (p.1, p.2.2)

def pairsOf (Γ : Gam) : List (Nat × (Grd × SV)) → Option (List S1 × List S1)
  | [] => some ([], [])
  | (t, ([], .s x')) :: r => match Γ.get t, pairsOf Γ r with
    | some ([], .s x), some (a, b) => some (x' :: a, x :: b)
    | _, _ => none
  | _ => none
/-- An object that was there at the entry is taken for itself. -/
def artsOf (Γ : Gam) (obs : Obs) : List Nat → Option (List S1 × List S1)
  | [] => some ([], [])
  | o :: r => match look o obs with
    | none => artsOf Γ obs r
    | some ob => match ob, Γ.obj o, artsOf Γ obs r with
      | .row _ et (.var x), some ([], .row _ et2 d), some (a, b) => some (.one (.sl o et (.int 0) (.un .len (.var x))) :: a, .one (.sl o et2 (.int 0) (.un .len d)) :: b)
      | .box _ _, some ([], .box _ _), some (a, b) => some (.one (.pb o 0) :: a, .one (.pb o 0) :: b)
      | _, _, _ => none
def wholeAll (Γ : Gam) (obs : Obs) (th : List (Nat × Ref)) (E : List Nat) : Bool :=
  E.all fun o => (look o obs).isNone || match look o th with
    | some (.sl q off len) => Nat.beq q o && match rowOf Γ [] o with
      | some (_, _, d, _) => isWhole d off len
      | none => false
    | some (.bx q) => Nat.beq q o
    | _ => false
def verChk (n : Nat) : Obj → Bool
  | .row _ _ (.var x) => Nat.blt x n
  | .row _ _ _ => false
  | .box _ _ => true
  | .view .. => false

def sgE (nb : Nat) (sg : List (Nat × Exp)) (e' e : Exp) : Bool := (e' == e && e'.bnd nb) || match e' with
  | .var x => look x sg == some e
  | _ => false
def wholeRow (Γ : Gam) (q : Nat) (off len : Exp) : Bool := match Γ.obj q with
  | some ([], .row _ _ d) => isWhole d off len
  | _ => false
def tieAt (Γ : Gam) (nb : Nat) (sg : List (Nat × Exp)) (t : TieJ) (pq oq : Nat) (pdq : Exp) (k : Nat) : Bool := match Γ.obj k with
  | some ([], .view pv pdv iv jv etv dv) => Nat.beq pv pq && pdv == pdq && Nat.beq jv t.j && Nat.beq etv t.et && dv == holeE oq && sgE nb sg t.i iv
  | _ => false
def tieOk (E : List Nat) (Γ : Gam) (J : Join) (acc : Acc) (t : TieJ) : Bool :=
  (look t.q J.Γ.ob).isNone && Nat.blt t.q J.no && !E.contains t.q && match look t.o acc.th, look t.par acc.th with
  | some (.sl oq off len), some (.sl pq offp lenp) => wholeRow Γ oq off len && wholeRow Γ pq offp lenp && match J.Γ.obj t.par, Γ.obj pq with
    | some ([], .row true pet pd'), some ([], .row true petq pdq) => pd' == t.pd && Nat.beq pet petq && sgE J.nb acc.sg t.pd pdq && (Γ.ob.map (·.1)).any (tieAt Γ J.nb acc.sg t pq oq pdq)
    | _, _ => false
  | _, _ => false
def tiesOk (E : List Nat) (Γ : Gam) (J : Join) (acc : Acc) : Bool := decide ((J.ties.map (·.q)).Nodup) && J.ties.all (tieOk E Γ J acc)

def coe (tab : Tab) (E : List Nat) (Γ : Gam) (J : Join) : Option (List Exp) :=
  let obs := obsOf J.Γ
  match artsOf Γ obs E, pairsOf Γ J.Γ.tm with
  | some (a', a), some (p', p) => match mS1s tab Γ [] J.nb obs (a' ++ p') (a ++ p) ⟨[], []⟩ with
    | some acc =>
      if J.Γ.ob.all (fun x => x.2.1.isEmpty && verChk (J.nb + J.cnt) x.2.2 && Nat.blt x.1 J.no) && allBound obs acc.th && chkOwn Γ obs acc.th && wholeAll Γ obs acc.th E && acc.sg.all (fun p => Nat.ble J.nb p.1 && Nat.blt p.1 (J.nb + J.cnt)) && tiesOk E Γ J acc then
        sgArgs acc.sg J.cnt J.nb
      else none
    | none => none
  | _, _ => none

section
variable {tab : Tab} {Γ Γ' : Gam} {ρ ρ' : Env} {tm : Array Value} {w w' : World} {C C0 C1 Cx : Ctx} {kn kn' : Kn} {Wr : CS} {w0 : World} {P : Program} {G : Grd} {nx no nx' no' nb : Nat} {obs : Obs} {S : Sig} {sigs : List Sig}

theorem pairsOf_spec {X : Nat × (Grd × SV) → Prop} : ∀ {l : List (Nat × (Grd × SV))} {a b : List S1}, pairsOf Γ l = some (a, b) → a.length = l.length ∧ b.length = l.length ∧
    ∀ (j : Nat) t y, l[j]? = some (t, y) → ∃ x' x, y = ([], .s x') ∧ a[j]? = some x' ∧ b[j]? = some x ∧ Γ.get t = some ([], .s x)
  | [], a, b, h => by cases h; exact ⟨rfl, rfl, fun j t y hj => by simp at hj⟩
  | (t, (g, sv)) :: r, a, b, h => by
    unfold pairsOf at h
    split at h
    · rename_i h0; cases h0
    · rename_i t' x' r' heq
      cases heq
      split at h
      · rename_i x a' b' h1 h2
        cases h
        obtain ⟨l1, l2, l3⟩ := pairsOf_spec (X := X) h2
        refine ⟨by simp [l1], by simp [l2], fun j t2 y hj => ?_⟩
        cases j with
        | zero => simp at hj; obtain ⟨rfl, rfl⟩ := hj; exact ⟨x', x, rfl, rfl, rfl, h1⟩
        | succ j => simpa using l3 j t2 y (by simpa using hj)
      · cases h
    · cases h

theorem artsOf_sound (h : Rel tab Γ ρ tm w C kn Wr w0) : ∀ {l : List Nat} {a b : List S1}, artsOf Γ obs l = some (a, b) → a.length = b.length ∧ ∀ (j : Nat) x, b[j]? = some x → ∃ v, S1Rel tab C kn.o ρ x v
  | [], a, b, hh => by cases hh; exact ⟨rfl, fun j x hj => by simp at hj⟩
  | o :: r, a, b, hh => by
    simp only [artsOf] at hh
    split at hh
    · exact artsOf_sound h hh
    · rename_i ob hob
      split at hh
      · rename_i dp et x g et2 d a' b' h1 h2
        cases hh
        obtain ⟨l1, l2⟩ := artsOf_sound h h2
        refine ⟨by simp [l1], fun j y hj => ?_⟩
        cases j with
        | zero =>
          simp at hj; subst hj
          obtain ⟨k1, k2, k3⟩ := h.obs o [] _ h1
          obtain ⟨rows, r1, r2⟩ := k3 trivial
          obtain ⟨x1, x2, x3⟩ := r2.header
          refine ⟨.slice (C.A o) (C.N o) (C.K o), ⟨k1, 0, C.N o, _, _, rfl, ?_, rfl, by omega, x2, by omega, ?_⟩, fun cs => by simp⟩
          · simp only [den, U.den, r1, T.len, x1]
          · rcases x3 with h0 | ⟨bb, off, h0⟩
            · exact .inl h0
            · exact .inr ⟨bb, off, h0, by rw [h0]; simp⟩
        | succ j => exact l2 j y (by simpa using hj)
      · rename_i rw' cells g rwc cells2 a' b' h1 h2
        cases hh
        obtain ⟨l1, l2⟩ := artsOf_sound h h2
        refine ⟨by simp [l1], fun j y hj => ?_⟩
        cases j with
        | zero =>
          simp at hj; subst hj
          obtain ⟨k1, k2, k3⟩ := h.obs o [] _ h1
          obtain ⟨bb, base, q1, _⟩ := k3 trivial
          exact ⟨.pointer (some ⟨bb, base, none⟩), ⟨k1, bb, base, q1, rfl⟩, fun cs => by simp⟩
        | succ j => exact l2 j y (by simpa using hj)
      · cases hh

/-- What was there at the entry lies where it lay. -/
theorem wholeAll_spec {a : Acc} {C' : Ctx} {E : List Nat} (hinv : Inv tab Γ [] ρ ρ' w C obs a C') (hw : wholeAll Γ obs a.th E = true) (h : Rel tab Γ ρ tm w C kn Wr w0) :
    ∀ o, o ∈ E → kIn obs o → kn.o o ∧ C'.A o = C.A o ∧ C'.N o = C.N o ∧ C'.K o = C.K o := by
  intro o hE ⟨ob, hob⟩
  simp only [wholeAll, List.all_eq_true] at hw
  have := hw o hE
  rw [hob] at this
  simp only [Option.isNone_some, Bool.false_or] at this
  split at this
  · rename_i q off len ht
    simp only [Bool.and_eq_true] at this
    obtain ⟨h1, h2⟩ := this
    have h1 := Nat.eq_of_beq_eq_true h1
    subst h1
    obtain ⟨ob', hb1, hB⟩ := hinv _ _ ht
    obtain ⟨dp, et', x', ti, rows, m, n, c, root, gr, obr, d', z1, z2, z3, z4, z5, z6, z7, z8, z9, z10, z11, z12, z13, z14, z15, z16, z17, z18, ⟨dp2, vw, z19⟩, z20⟩ := hB
    rw [z19] at h2
    refine ⟨?_, z20 h2⟩
    unfold rowOf at z19
    split at z19
    · rename_i ho; exact (h.obs _ _ _ ho).1
    · rename_i ho; exact (h.obs _ _ _ ho).1
    · cases z19
  · rename_i q ht
    have h1 := Nat.eq_of_beq_eq_true this
    subst h1
    obtain ⟨ob', hb1, hB⟩ := hinv _ _ ht
    obtain ⟨rw', rwc, cells', cells, g, z1, z2, z3, z4, z5, z6, z7⟩ := hB
    exact ⟨(h.obs _ _ _ z2).1, z5⟩
  · cases this

theorem look_obsOf (Γ : Gam) (o : Nat) : look o (obsOf Γ) = (Γ.obj o).map (·.2) := look_map (fun p : Grd × Obj => p.2) o Γ.ob

theorem sgE_spec {nb : Nat} {sg : List (Nat × Exp)} {e' e : Exp} (h : sgE nb sg e' e = true) (hsg : ∀ x e, look x sg = some e → ρ' x = den ρ e) (hag : ∀ x, x < nb → ρ' x = ρ x) : den ρ' e' = den ρ e := by
  unfold sgE at h
  rw [Bool.or_eq_true] at h
  rcases h with h | h
  · simp only [Bool.and_eq_true, beq_iff_eq] at h
    obtain ⟨h1, h2⟩ := h
    subst h1
    exact den_agree (n := nb) (fun x hx => hag x hx) _ h2
  · split at h
    · rename_i x
      simp only [beq_iff_eq] at h
      exact hsg x e h
    · cases h
/-- What holds where a tie is. -/
def TieGood (tab : Tab) (ΓJ : Gam) (ρ : Env) (w : World) (C : Ctx) (kn : Kn) (t : TieJ) : Prop :=
  ∃ (pet : TypeId) (ti : TI) (m b base : Nat) (rows : List T), ΓJ.obj t.par = some ([], .row true pet t.pd) ∧ kn.o t.par ∧ kn.o t.o ∧ (∃ x, t.pd = .var x ∧ kn.v x) ∧ den ρ t.i = .int m ∧ m < C.N t.par ∧ C.A t.par = some ⟨b, base, none⟩ ∧
    den ρ t.pd = .list rows ∧ tab.get pet = some ti ∧ ti.cks[t.j]? = some (.sl t.et) ∧ cellAt w b (base + m * tab.sz pet + t.j) = some (.slice (C.A t.o) (C.N t.o) (C.K t.o))
theorem ties_add : ∀ (ts : List TieJ) (ΓJ : Gam) (C : Ctx) (kn : Kn), Rel tab ΓJ ρ tm w C kn Wr w0 → (∀ t ∈ ts, TieGood tab ΓJ ρ w C kn t) → (∀ t ∈ ts, ¬ kn.o t.q) → (ts.map (·.q)).Nodup →
    ∃ C' kn', Rel tab (ΓJ.appOb (ts.map TieJ.upd)) ρ tm w C' kn' Wr w0 ∧ (∀ o, kn.o o → C'.A o = C.A o ∧ C'.N o = C.N o ∧ C'.K o = C.K o) ∧ (∀ o, kn'.o o → kn.o o ∨ ∃ t ∈ ts, o = t.q) ∧ kn'.v = kn.v ∧ kn.le kn'
  | [], ΓJ, C, kn, h, _, _, _ => ⟨C, kn, h, fun _ _ => ⟨rfl, rfl, rfl⟩, fun _ => .inl, rfl, Kn.le.refl _⟩
  | t :: ts, ΓJ, C, kn, h, hg, hq, hn => by
    obtain ⟨pet, ti, m, b, base, rows, g1, g2, g3, g4, g5, g6, g7, g8, g9, g10, g11⟩ := hg t (by simp)
    have hqt := hq t (by simp)
    have hqp : t.q ≠ t.par := fun e => hqt (e ▸ g2)
    have hqo : t.q ≠ t.o := fun e => hqt (e ▸ g3)
    simp only [List.map_cons, List.nodup_cons] at hn
    have s1 := h.addOb (o := t.q) (g := []) (ob := .view t.par t.pd t.i t.j t.et (holeE t.o)) (A := C.A t.o) (N := C.N t.o) (K := C.K t.o) (F := Emp) hqt ⟨g2, g4⟩
      (fun _ => by
        intro gp pet' hp' _
        rw [Gam.obj_setOb_ne _ _ hqp, g1] at hp'
        cases hp'
        refine ⟨m, b, base, rows, g5, ?_, ?_, g8, .inl ⟨t.o, rfl, .inl g3, ?_, ?_, ?_⟩, ⟨ti, g9, g10⟩, ?_⟩
        · rw [(Ctx.set_ne (Ne.symm hqp)).2.1]; exact g6
        · rw [(Ctx.set_ne (Ne.symm hqp)).1]; exact g7
        · rw [Ctx.set_self.1, (Ctx.set_ne (Ne.symm hqo)).1]
        · rw [Ctx.set_self.2.1, (Ctx.set_ne (Ne.symm hqo)).2.1]
        · rw [Ctx.set_self.2.2.1, (Ctx.set_ne (Ne.symm hqo)).2.2.1]
        · rw [Ctx.set_self.1, Ctx.set_self.2.1, Ctx.set_self.2.2.1]; exact g11)
      (fun _ hh => by cases hh) (fun _ hh => by cases hh) (fun _ hh => by cases hh)
    have hset : ∀ o, kn.o o → (C.set t.q (C.A t.o) (C.N t.o) (C.K t.o) Emp).A o = C.A o ∧ (C.set t.q (C.A t.o) (C.N t.o) (C.K t.o) Emp).N o = C.N o ∧ (C.set t.q (C.A t.o) (C.N t.o) (C.K t.o) Emp).K o = C.K o := by
      intro o ho
      have : o ≠ t.q := fun e => hqt (e ▸ ho)
      exact ⟨(Ctx.set_ne this).1, (Ctx.set_ne this).2.1, (Ctx.set_ne this).2.2.1⟩
    obtain ⟨C2, kn2, r1, r2, r3, r4, r5⟩ := ties_add ts _ _ _ s1 (fun t' ht' => by
        obtain ⟨pet, ti, m, b, base, rows, g1, g2, g3, g4, g5, g6, g7, g8, g9, g10, g11⟩ := hg t' (List.mem_cons_of_mem _ ht')
        have hqp' : t.q ≠ t'.par := fun e => hqt (e ▸ g2)
        obtain ⟨y1, y2, y3⟩ := hset t'.par g2
        obtain ⟨z1, z2, z3⟩ := hset t'.o g3
        exact ⟨pet, ti, m, b, base, rows, by rw [Gam.obj_setOb_ne _ _ hqp']; exact g1, .inl g2, .inl g3, g4, g5, by rw [y2]; exact g6, by rw [y1]; exact g7, g8, g9, g10, by rw [z1, z2, z3]; exact g11⟩)
      (fun t' ht' hk => by
        rcases hk with hk | hk
        · exact hq t' (List.mem_cons_of_mem _ ht') hk
        · exact hn.1 (List.mem_map.2 ⟨t', ht', hk⟩)) hn.2
    refine ⟨C2, kn2, r1, fun o ho => ?_, fun o ho => ?_, r4, ⟨fun o ho => r5.1 o (.inl ho), fun x hx => r5.2 x hx⟩⟩
    · obtain ⟨y1, y2, y3⟩ := r2 o (.inl ho)
      obtain ⟨z1, z2, z3⟩ := hset o ho
      exact ⟨y1.trans z1, y2.trans z2, y3.trans z3⟩
    · rcases r3 o ho with (hk | hk) | ⟨t', ht', e⟩
      · exact .inl hk
      · exact .inr ⟨t, by simp, hk⟩
      · exact .inr ⟨t', List.mem_cons_of_mem _ ht', e⟩

theorem coe_sound {E : List Nat} {nt : Nat} {a : Act} {ds : List Deferred} {J : Join} {es : List Exp} (hT : TabOk P tab) (hst : St tab nt (· ∈ E) C0 Γ ρ a w ds kn Wr w0) (hc : coe tab E Γ J = some es) :
    es.length = J.cnt ∧ ∃ kn', St tab nt (· ∈ E) C0 J.full (updL ρ J.nb (es.map (den ρ))) a w ds kn' Wr w0 ∧ kn'.below (J.nb + J.cnt) J.no := by
  obtain ⟨⟨C, h, hkeep⟩, s2, s3, s4⟩ := hst
  unfold coe at hc
  simp only at hc
  split at hc
  case h_2 => cases hc
  rename_i a' a0 p' p ha hp
  split at hc
  case h_2 => cases hc
  rename_i acc hacc
  split at hc
  case isFalse => cases hc
  rename_i hchk
  simp only [Bool.and_eq_true, List.all_eq_true] at hchk
  obtain ⟨⟨⟨⟨⟨c1, c2⟩, c3⟩, c4⟩, c5⟩, c6⟩ := hchk
  obtain ⟨e1, e2⟩ := sgArgs_spec hc
  refine ⟨e1, ?_⟩
  obtain ⟨al, av⟩ := artsOf_sound h ha
  obtain ⟨pl1, pl2, pv⟩ := pairsOf_spec (X := fun _ => True) hp
  have hsg : ∀ x e, look x acc.sg = some e → updL ρ J.nb (es.map (den ρ)) x = den ρ e := by
    intro x e hx
    obtain ⟨b1, b2⟩ := c5 _ (look_mem hx)
    have b1 : J.nb ≤ x := Nat.le_of_ble_eq_true b1
    have b2 : x < J.nb + J.cnt := Nat.le_of_ble_eq_true b2
    obtain ⟨e', h1, h2⟩ := e2 (x - J.nb) (by omega)
    rw [show J.nb + (x - J.nb) = x by omega, hx] at h1; cases h1
    have := updL_get (es.map (den ρ)) J.nb ρ (x - J.nb) (den ρ e) (by rw [List.getElem?_map, h2]; rfl)
    rwa [show J.nb + (x - J.nb) = x by omega] at this
  have hag : ∀ x, x < J.nb → updL ρ J.nb (es.map (den ρ)) x = ρ x := fun x hx => agree_updL _ _ _ (Nat.le_refl _) x hx
  obtain ⟨C', st, hl1, hl2⟩ := mS1s_sound (nb := J.nb) (ρ' := updL ρ J.nb (es.map (den ρ))) (C' := C) hT h (G := []) trivial hag
    (fun j v => a'.length ≤ j → ∃ t y, J.Γ.tm[j - a'.length]? = some (t, y) ∧ v = a.tmps.getD t undef) hacc (fun j x hj => by
      by_cases hlt : j < a0.length
      · rw [List.getElem?_append_left hlt] at hj
        obtain ⟨v, hv⟩ := av j x hj
        exact ⟨v, fun hle => by omega, hv⟩
      · rw [List.getElem?_append_right (by omega)] at hj
        have hlt2 : j - a0.length < J.Γ.tm.length := by
          have := List.getD_some_lt hj; omega
        obtain ⟨⟨t, y⟩, hty⟩ : ∃ z, J.Γ.tm[j - a0.length]? = some z := ⟨_, List.getElem?_eq_getElem hlt2⟩
        obtain ⟨x', x2, y1, y2, y3, y4⟩ := pv _ t y hty
        rw [hj] at y3; cases y3
        refine ⟨a.tmps.getD t undef, fun _ => ⟨t, y, by rw [al]; exact hty, rfl⟩, ?_⟩
        exact (h.tms t [] _ y4).1 trivial) Inv.empty hsg
  obtain ⟨hk, hbd, hob, hds, hps⟩ := coe_objs h st.inv c2 c3
  have hlo : ∀ o g ob, J.Γ.obj o = some (g, ob) → g = [] ∧ look o (obsOf J.Γ) = some ob ∧ verChk (J.nb + J.cnt) ob = true ∧ o < J.no := by
    intro o g ob ho
    obtain ⟨⟨b1, b2⟩, b3⟩ := c1 _ (look_mem ho)
    refine ⟨by simpa using b1, by rw [look_obsOf, ho]; rfl, b2, Nat.le_of_ble_eq_true b3⟩
  have hlo' : ∀ o ob, look o (obsOf J.Γ) = some ob → ∃ g, J.Γ.obj o = some (g, ob) := by
    intro o ob ho
    rw [look_obsOf] at ho
    cases hx : J.Γ.obj o with
    | none => rw [hx] at ho; cases ho
    | some y => rw [hx] at ho; cases ho; exact ⟨y.1, rfl⟩
  have hrel : Rel tab J.Γ (updL ρ J.nb (es.map (den ρ))) a.tmps w C' ⟨kIn (obsOf J.Γ), fun x => x < J.nb + J.cnt⟩ Wr w0 := {
    tms := fun t g sv ht => by
      obtain ⟨j, hj⟩ := List.mem_iff_getElem?.1 (look_mem ht)
      obtain ⟨x', x, y1, y2, y3, y4⟩ := pv j t (g, sv) hj
      cases y1
      refine ⟨fun _ => ?_, fun hn => absurd trivial hn⟩
      obtain ⟨v, v1, v2⟩ := hl2 (a'.length + j) x' (by rw [List.getElem?_append_right (by omega)]; rw [show a'.length + j - a'.length = j by omega]; exact y2)
      obtain ⟨t2, y5, y6, y7⟩ := v1 (by omega)
      rw [show a'.length + j - a'.length = j by omega, hj] at y6
      cases y6
      subst y7
      exact S1Rel.mono v2 (fun o ho => (hk o).2 ho) fun _ _ => ⟨rfl, rfl, rfl⟩
    obs := fun o g ob ho => by
      obtain ⟨b1, b2, b3, b4⟩ := hlo o g ob ho
      refine ⟨⟨ob, b2⟩, ?_, fun _ => ?_⟩
      · cases ob with
        | row dp et d => cases dp with
          | false => trivial
          | true =>
            unfold verChk at b3
            split at b3
            · rename_i heq; cases heq; exact ⟨_, rfl, Nat.le_of_ble_eq_true b3⟩
            · cases b3
            · rename_i heq; cases heq
            · rename_i heq; cases heq
        | view => simp [verChk] at b3
        | box => trivial
      · obtain ⟨q1, q2⟩ := hob o ob b2
        exact q2.congrObj fun par pd i j et d he => by rw [he] at q1; cases q1
    dis := fun o o' g g' ob ob' ho ho' _ _ hne hown _ => hds o o' ob ob' (hlo o g ob ho).2.1 (hlo o' g' ob' ho').2.1 hne hown
    own := fun o g ob ho _ hown b x hf => by
      obtain ⟨q, gq, obq, _, q2, q3, q4, q5⟩ := hps o ob (hlo o g ob ho).2.1 hown b x hf
      exact h.own q gq obq q2 q3 q4 b x q5
    frm := h.frm }
  -- the ties
  simp only [tiesOk, Bool.and_eq_true, List.all_eq_true, decide_eq_true_eq] at c6
  obtain ⟨c6, c7⟩ := c6
  have hgood : ∀ t ∈ J.ties, TieGood tab J.Γ (updL ρ J.nb (es.map (den ρ))) w C' ⟨kIn (obsOf J.Γ), fun x => x < J.nb + J.cnt⟩ t ∧ ¬ kIn (obsOf J.Γ) t.q ∧ t.q < J.no ∧ t.q ∉ E := by
    intro t ht
    have hok := c7 t ht
    simp only [tieOk, Bool.and_eq_true, Bool.not_eq_true', Option.isNone_iff_eq_none] at hok
    obtain ⟨⟨⟨k1, k2⟩, k3⟩, k4⟩ := hok
    refine ⟨?_, ?_, Nat.le_of_ble_eq_true k2, by simpa using k3⟩
    · split at k4
      case h_2 => cases k4
      rename_i oq off len pq offp lenp ho hp
      simp only [Bool.and_eq_true] at k4
      obtain ⟨⟨k4, k5⟩, k6⟩ := k4
      split at k6
      case h_2 => cases k6
      rename_i pet pd' petq pdq hJp hpq
      simp only [Bool.and_eq_true, beq_iff_eq, List.any_eq_true] at k6
      obtain ⟨⟨⟨k6, k7⟩, k8⟩, kk, k9, k10⟩ := k6
      subst k6
      have k7 := Nat.eq_of_beq_eq_true k7
      subst k7
      -- where the two lie
      have whole : ∀ {x q : Nat} {off len : Exp}, look x acc.th = some (.sl q off len) → wholeRow Γ q off len = true → kIn (obsOf J.Γ) x ∧ C'.A x = C.A q ∧ C'.N x = C.N q ∧ C'.K x = C.K q := by
        intro x q off len hx hw
        obtain ⟨ob', hb1, hB⟩ := st.inv _ _ hx
        obtain ⟨dp, et', x', ti, rows, m, n, c, root, gr, obr, d', z1, z2, z3, z4, z5, z6, z7, z8, z9, z10, z11, z12, z13, z14, z15, z16, z17, z18, ⟨dp2, vw, z19⟩, z20⟩ := hB
        unfold wholeRow at hw
        split at hw
        case h_2 => cases hw
        rename_i dpq etq d hq
        simp only [rowOf, hq] at z19
        split at z19
        · cases z19
          exact ⟨⟨ob', hb1⟩, z20 hw⟩
        · cases z19
      obtain ⟨ko, o1, o2, o3⟩ := whole ho k4
      obtain ⟨kp, p1, p2, p3⟩ := whole hp k5
      unfold tieAt at k10
      split at k10
      case h_2 => cases k10
      rename_i pv pdv iv jv etv dv hk
      simp only [Bool.and_eq_true, beq_iff_eq] at k10
      obtain ⟨⟨⟨⟨⟨r1, r2⟩, r3⟩, r4⟩, r5⟩, r6⟩ := k10
      have r1 := Nat.eq_of_beq_eq_true r1
      have r3 := Nat.eq_of_beq_eq_true r3
      have r4 := Nat.eq_of_beq_eq_true r4
      subst r1 r2 r3 r4 r5
      obtain ⟨m, b, base, rows, a1, a2, a3, a4, a5, ⟨ti, t1, t2⟩, a8⟩ := (h.obs kk [] _ hk).2.2 trivial [] _ hpq trivial
      have hdr : C.A kk = C.A oq ∧ C.N kk = C.N oq ∧ C.K kk = C.K oq := by
        rcases a5 with ⟨o0, c1, _, c3⟩ | ⟨rs, c1, _⟩
        · have : oq = o0 := by injection c1 with c1 _; injection c1
          subst this; exact c3
        · cases c1
      have hv := (hrel.obs t.par [] _ hJp).2.1
      refine ⟨_, ti, m, b, base, rows, hJp, kp, ko, hv, ?_, by rw [p2]; exact a2, by rw [p1]; exact a3, ?_, t1, t2, ?_⟩
      · rw [sgE_spec r6 hsg hag]; exact a1
      · rw [sgE_spec k8 hsg hag]; exact a4
      · rw [o1, o2, o3, ← hdr.1, ← hdr.2.1, ← hdr.2.2]; exact a8
    · rintro ⟨ob, hob⟩
      rw [look_obsOf] at hob
      unfold Gam.obj at hob
      rw [k1] at hob; cases hob
  obtain ⟨C'', kn'', g1, g2, g3, g4, g5⟩ := ties_add J.ties J.Γ C' _ hrel (fun t ht => (hgood t ht).1) (fun t ht => (hgood t ht).2.1) c6
  refine ⟨_, ⟨⟨C'', g1, fun o hE hko => ?_⟩, s2, fun t ht => ?_, s4⟩, fun o ho => ?_, fun x hx => by rw [g4] at hx; exact hx⟩
  · rcases g3 o hko with hk' | ⟨t, ht, rfl⟩
    · obtain ⟨k1, k2, k3, k4⟩ := wholeAll_spec st.inv c4 h o hE hk'
      obtain ⟨z1, z2, z3⟩ := hkeep o hE k1
      obtain ⟨u1, u2, u3⟩ := g2 o hk'
      exact ⟨u1.trans (k2.trans z1), u2.trans (k3.trans z2), u3.trans (k4.trans z3)⟩
    · exact absurd hE (hgood t ht).2.2.2
  · unfold Join.full at ht
    rw [get_appOb] at ht
    cases hx : J.Γ.get t with
    | none => exact absurd hx ht
    | some y =>
      obtain ⟨j, hj⟩ := List.mem_iff_getElem?.1 (look_mem hx)
      obtain ⟨x', x, y1, y2, y3, y4⟩ := pv j t y hj
      exact s3 t (by rw [y4]; simp)
  · rcases g3 o ho with hk' | ⟨t, ht, rfl⟩
    · obtain ⟨ob, ho⟩ := hk'
      obtain ⟨g, hg⟩ := hlo' o ob ho
      exact (hlo o g ob hg).2.2.2
    · exact (hgood t ht).2.2.1
end
end Gp
