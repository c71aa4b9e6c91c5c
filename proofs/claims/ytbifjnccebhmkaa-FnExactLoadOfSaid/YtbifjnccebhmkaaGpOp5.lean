/- Gp, part 10: reading: variables, elements of rows, rows inside of rows. -/
import Derived.Test.YtbifjnccebhmkaaGpOp4
set_option linter.unusedVariables false
set_option linter.unusedSimpArgs false
namespace Gp
open Go
section
variable {tab : Tab} {Γ : Gam} {ρ : Env} {tm : Array Value} {w : World} {C : Ctx} {kn : Kn} {Wr : CS} {w0 : World} {P : Program} {I : Nat → List T → List T → Prop} {G : Grd} {nx no : Nat}

/-- The expression of a row's cell. -/
def cellE (k : Nat) (r : Exp) (j : Nat) : Exp := if Nat.beq k 1 then r else .un (.cell j) r
theorem cellE_den {k : Nat} {d i : Exp} {rows : List T} {m j : Nat} (hd : den ρ d = .list rows) (hi : den ρ i = .int m) {r : Exp} (hr : den ρ r = den ρ (.bin .idx d i)) : den ρ (cellE k r j) = cellT k rows m j := by
  have h0 : den ρ r = rows.getD m .hole := by
    rw [hr]; simp only [den, B.den, hd, hi, T.idx]
    rw [if_neg (by omega)]; simp
  unfold cellE cellT
  by_cases hk : k = 1
  · subst hk; rw [if_pos (show Nat.beq 1 1 = true from rfl), if_pos rfl]; exact h0
  · rw [if_neg (fun e => hk (Nat.eq_of_beq_eq_true e)), if_neg hk]; simp only [den, U.den, h0]

/-- Cells of a row as leaves; rows inside of it become objects: shared ones, or views of an owned row. -/
def rdCells (o : Nat) (dp vw : Bool) (G : Grd) (d i : Exp) (k : Nat) (r : Exp) : List CK → Nat → Nat → Option (List Leaf × List (Nat × Option (Grd × Obj)) × List (Grd × SI) × Nat)
  | [], _, no => some ([], [], [], no)
  | ck :: cks, j, no =>
    let e := cellE k r j
    match ck with
    | .int q => (rdCells o dp vw G d i k r cks (j + 1) no).map fun (ls, ob, si, n) => (.int q e :: ls, ob, si, n)
    | .bool => (rdCells o dp vw G d i k r cks (j + 1) no).map fun (ls, ob, si, n) => (.bool e :: ls, ob, si, n)
    | .str => (rdCells o dp vw G d i k r cks (j + 1) no).map fun (ls, ob, si, n) => (.str e :: ls, ob, si, n)
    | .sl et2 => if vw then none else
      (rdCells o dp vw G d i k r cks (j + 1) (no + 1)).map fun (ls, ob, si, n) =>
        (.sl no et2 (.int 0) (.un .len e) :: ls, (no, some (G, if dp then .view o d i j et2 e else .row false et2 e)) :: ob, (G, .chk (.un .isList e)) :: si, n)
    | _ => none

theorem isList_sound {t : T} (h : T.isList t = .bool true) : ∃ l, t = .list l := by
  cases t <;> simp [T.isList] at h
  exact ⟨_, rfl⟩

theorem Gam.appOb_get (Γ : Gam) (t : Nat) : ∀ (l : List (Nat × Option (Grd × Obj))), (Γ.appOb l).get t = Γ.get t := by
  intro l
  induction l generalizing Γ with
  | nil => rfl
  | cons x r ih =>
    obtain ⟨o, x⟩ := x
    cases x with
    | none => simp only [Gam.appOb]; rw [ih, Gam.get_delOb]
    | some x => simp only [Gam.appOb]; rw [ih, Gam.get_setOb]

theorem DRel.leafInt {k : Nat → Prop} {q : IntKind} {v : Value} {e : Exp} {F : CS} {dp : Bool} (h : DRel tab w dp (.int q) v (den ρ e) F) : LeafRel tab C k ρ (.int q e) v := by
  generalize hd : den ρ e = t at h
  cases h with
  | int => exact ⟨_, hd, rfl⟩
theorem DRel.leafBool {k : Nat → Prop} {v : Value} {e : Exp} {F : CS} {dp : Bool} (h : DRel tab w dp .bool v (den ρ e) F) : LeafRel tab C k ρ (.bool e) v := by
  generalize hd : den ρ e = t at h
  cases h with
  | bool => exact ⟨_, hd, rfl⟩
theorem DRel.leafStr {k : Nat → Prop} {v : Value} {e : Exp} {F : CS} {dp : Bool} (h : DRel tab w dp .str v (den ρ e) F) : LeafRel tab C k ρ (.str e) v := by
  generalize hd : den ρ e = t at h
  cases h with
  | str => exact ⟨_, hd, rfl⟩

/-- A header's leaf. -/
theorem LeafRel.header {k : Nat → Prop} {o : Nat} {et : TypeId} {e : Exp} {a : Option Addr} {n c : Nat} {rs : List T} (hk : k o) (hA : C.A o = a) (hN : C.N o = n) (hK : C.K o = c) (he : den ρ e = .list rs) (hn : rs.length = n) (hc : n ≤ c)
    (ha : c = 0 ∨ ∃ b off, a = some ⟨b, off, none⟩) : LeafRel tab C k ρ (.sl o et (.int 0) (.un .len e)) (.slice a n c) := by
  refine ⟨hk, 0, n, a, c, rfl, by simp [den, U.den, he, T.len, hn], rfl, by omega, hc, by omega, ?_⟩
  rcases ha with h | ⟨b, off, h⟩
  · exact .inl h
  · exact .inr ⟨b, off, by rw [hA, h], by simp [h]⟩

theorem rdCells_sound {o : Nat} {dp vw : Bool} {d i r : Exp} {pet : TypeId} {root : Nat} {gr : Grd} {obr : Obj} {m b base : Nat} {rows : List T} {ti : TI}
    (hG : holdsG ρ G) (hti : tab.get pet = some ti) (hd : den ρ d = .list rows) (hi : den ρ i = .int m) (hr : den ρ r = den ρ (.bin .idx d i)) (hm : m < C.N o) (hA : C.A o = some ⟨b, base, none⟩)
    (hmem : ∀ (q : Nat) ck, ti.cks[q]? = some ck → ∃ v F', cellAt w b (base + m * ti.size + q) = some v ∧ DRel tab w dp ck v (cellT ti.size rows m q) F' ∧ Sub F' (C.F root))
    (hkr : kn.o root) (hko : kn.o o) (hvo : vw = false → dp = true → ∃ x, d = .var x ∧ kn.v x) (hrow : vw = false → root = o ∧ obr = .row dp pet d) :
    ∀ (cks : List CK) (j : Nat) (no : Nat) (Γ : Gam) (C' : Ctx) (kn' : Kn) {ls ob si n}, rdCells o dp vw G d i ti.size r cks j no = some (ls, ob, si, n) → (∀ (q : Nat) ck, cks[q]? = some ck → ti.cks[j + q]? = some ck) →
      Rel tab Γ ρ tm w C' kn' Wr w0 → kn.le kn' → (∀ x, kn.o x → C'.A x = C.A x ∧ C'.N x = C.N x ∧ C'.K x = C.K x ∧ C'.F x = C.F x) → Γ.obj root = some (gr, obr) → holdsG ρ gr → obr.isView = false →
      HoldsS I ρ si → (∀ x, no ≤ x → x < n → ¬ kn'.o x) →
      ∃ C'' kn'', Rel tab (Γ.appOb ob) ρ tm w C'' kn'' Wr w0 ∧ kn'.le kn'' ∧ (∀ x, kn'.o x → C''.A x = C'.A x ∧ C''.N x = C'.N x ∧ C''.K x = C'.K x) ∧ no ≤ n ∧
        (∀ x, kn''.o x → kn'.o x ∨ (no ≤ x ∧ x < n)) ∧ (∀ x, kn''.v x → kn'.v x) ∧
        ls.length = cks.length ∧ ∀ (q : Nat) l, ls[q]? = some l → ∃ v, cellAt w b (base + m * ti.size + (j + q)) = some v ∧ LeafRel tab C'' kn''.o ρ l v
  | [], j, no, Γ, C', kn', ls, ob, si, n, hrd, _, h, hle, hC, _, _, _, _, _ => by
    cases hrd
    exact ⟨C', kn', h, Kn.le.refl _, fun _ _ => ⟨rfl, rfl, rfl⟩, Nat.le_refl _, fun _ => .inl, fun _ => id, rfl, fun q l hl => by simp at hl⟩
  | ck :: cks, j, no, Γ, C', kn', ls, ob, si, n, hrd, hck, h, hle, hC, hor, hgr, hvr, hS, hfr => by
    have hck0 := hck 0 ck rfl
    simp only [Nat.add_zero] at hck0
    have hcks : ∀ (q : Nat) ck', cks[q]? = some ck' → ti.cks[j + 1 + q]? = some ck' := fun q ck' hq => by rw [show j + 1 + q = j + (q + 1) by omega]; exact hck (q + 1) ck' (by simpa using hq)
    obtain ⟨v, F', m1, m2, m3⟩ := hmem j ck hck0
    have hce := cellE_den (k := ti.size) (j := j) hd hi hr
    rw [← hce] at m2
    have plain : ∀ {lf : Leaf} {ls' ob' si' n'}, rdCells o dp vw G d i ti.size r cks (j + 1) no = some (ls', ob', si', n') → ls = lf :: ls' → ob = ob' → si = si' → n = n' → (∀ (C'' : Ctx) (k : Nat → Prop), LeafRel tab C'' k ρ lf v) →
      ∃ C'' kn'', Rel tab (Γ.appOb ob) ρ tm w C'' kn'' Wr w0 ∧ kn'.le kn'' ∧ (∀ x, kn'.o x → C''.A x = C'.A x ∧ C''.N x = C'.N x ∧ C''.K x = C'.K x) ∧ no ≤ n ∧
        (∀ x, kn''.o x → kn'.o x ∨ (no ≤ x ∧ x < n)) ∧ (∀ x, kn''.v x → kn'.v x) ∧
        ls.length = (ck :: cks).length ∧ ∀ (q : Nat) l, ls[q]? = some l → ∃ v, cellAt w b (base + m * ti.size + (j + q)) = some v ∧ LeafRel tab C'' kn''.o ρ l v := by
      rintro lf ls' ob' si' n' hrec rfl rfl rfl rfl hlf
      obtain ⟨C'', kn'', q1, q2, q3, q4, q5, q5v, q6, q7⟩ := rdCells_sound hG hti hd hi hr hm hA hmem hkr hko hvo hrow cks (j + 1) no Γ C' kn' hrec hcks h hle hC hor hgr hvr hS hfr
      refine ⟨C'', kn'', q1, q2, q3, q4, q5, q5v, by simp [q6], fun q l hl => ?_⟩
      cases q with
      | zero => simp at hl; subst hl; exact ⟨v, m1, hlf _ _⟩
      | succ q =>
        obtain ⟨v', h1, h2⟩ := q7 q l (by simpa using hl)
        exact ⟨v', by rw [show j + (q + 1) = j + 1 + q by omega]; exact h1, h2⟩
    simp only [rdCells] at hrd
    cases ck with
    | int q =>
      cases hrec : rdCells o dp vw G d i ti.size r cks (j + 1) no with
      | none => rw [hrec] at hrd; cases hrd
      | some y =>
        obtain ⟨ls', ob', si', n'⟩ := y
        rw [hrec] at hrd; cases hrd
        exact plain hrec rfl rfl rfl rfl fun C'' k => DRel.leafInt m2
    | bool =>
      cases hrec : rdCells o dp vw G d i ti.size r cks (j + 1) no with
      | none => rw [hrec] at hrd; cases hrd
      | some y =>
        obtain ⟨ls', ob', si', n'⟩ := y
        rw [hrec] at hrd; cases hrd
        exact plain hrec rfl rfl rfl rfl fun C'' k => DRel.leafBool m2
    | str =>
      cases hrec : rdCells o dp vw G d i ti.size r cks (j + 1) no with
      | none => rw [hrec] at hrd; cases hrd
      | some y =>
        obtain ⟨ls', ob', si', n'⟩ := y
        rw [hrec] at hrd; cases hrd
        exact plain hrec rfl rfl rfl rfl fun C'' k => DRel.leafStr m2
    | sl et2 =>
      dsimp only at hrd
      by_cases hvw : vw = true
      · simp [hvw] at hrd
      rw [if_neg hvw] at hrd
      have hvw' : vw = false := by simpa using hvw
      obtain ⟨hro, hrob⟩ := hrow hvw'
      subst hro
      cases hrec : rdCells root dp vw G d i ti.size r cks (j + 1) (no + 1) with
      | none => rw [hrec] at hrd; cases hrd
      | some y =>
        obtain ⟨ls', ob', si', n'⟩ := y
        rw [hrec] at hrd
        simp only [Option.map_some, Option.some.injEq, Prod.mk.injEq] at hrd
        obtain ⟨h1, h2, h3, h4⟩ := hrd
        subst h1; subst h2; subst h3; subst h4
        have hchk := hS (G, .chk (.un .isList (cellE ti.size r j))) (by simp) hG
        simp only [SIok, den, U.den] at hchk
        obtain ⟨rs, hrs⟩ := isList_sound hchk
        obtain ⟨va, vn, vc, rfl⟩ := m2.isSlice
        rw [hrs] at m2
        obtain ⟨hd1, hd2, hd3⟩ := m2.header
        have hno : ¬ kn'.o no := by
          refine hfr no (Nat.le_refl _) ?_
          by_cases hlt : no < n'
          · exact hlt
          · exfalso
            have : ∀ (cks : List CK) (j no : Nat) {ls ob si n}, rdCells root dp vw G d i ti.size r cks j no = some (ls, ob, si, n) → no ≤ n := by
              intro cks
              induction cks with
              | nil => intro j no ls ob si n h; cases h; exact Nat.le_refl _
              | cons c cs ih =>
                intro j no ls ob si n h
                simp only [rdCells] at h
                cases c with
                | int q => cases hq : rdCells root dp vw G d i ti.size r cs (j + 1) no with
                  | none => rw [hq] at h; cases h
                  | some y => rw [hq] at h; cases h; exact ih _ _ hq
                | bool => cases hq : rdCells root dp vw G d i ti.size r cs (j + 1) no with
                  | none => rw [hq] at h; cases h
                  | some y => rw [hq] at h; cases h; exact ih _ _ hq
                | str => cases hq : rdCells root dp vw G d i ti.size r cs (j + 1) no with
                  | none => rw [hq] at h; cases h
                  | some y => rw [hq] at h; cases h; exact ih _ _ hq
                | sl e => dsimp only at h; rw [if_neg hvw] at h; cases hq : rdCells root dp vw G d i ti.size r cs (j + 1) (no + 1) with
                  | none => rw [hq] at h; cases h
                  | some y => rw [hq] at h; cases h; exact Nat.le_trans (Nat.le_succ _) (ih _ _ hq)
                | _ => cases h
            have := this _ _ _ hrec; omega
        have hne : ∀ x, kn'.o x → x ≠ no := fun x hx e => hno (e ▸ hx)
        have hkroot := hle.1 root hkr
        have hstep : Rel tab (Γ.setOb no (G, if dp then .view root d i j et2 (cellE ti.size r j) else .row false et2 (cellE ti.size r j))) ρ tm w (C'.set no va vn vc F') (kn'.addO no) Wr w0 := by
          refine h.addOb hno ?_ (fun _ => ?_) (fun _ hown => ?_) (fun _ hvw2 o' g' ob'' ho' hg' hown' => ?_) (fun _ hown => ?_)
          · cases dp with
            | false => trivial
            | true => obtain ⟨x, hx1, hx2⟩ := hvo hvw' rfl; exact ⟨hkroot, x, hx1, hle.2 x hx2⟩
          · cases dp with
            | false =>
              exact ⟨rs, hrs, by rw [Ctx.set_self.1, Ctx.set_self.2.1, Ctx.set_self.2.2.1, Ctx.set_self.2.2.2]; exact m2⟩
            | true =>
              intro gp pet' hp hgp
              rw [if_pos rfl] at hp
              rw [Gam.obj_setOb_ne _ _ (Ne.symm (hne root hkroot)), hor, hrob] at hp
              cases hp
              have hsz : tab.sz pet = ti.size := by simp [Tab.sz, hti]
              refine ⟨m, b, base, rows, hi, ?_, ?_, hd, .inr ⟨rs, hrs, ?_, ?_⟩, ⟨ti, hti, hck0⟩, ?_⟩
              · rw [(Ctx.set_ne (hne root hkroot)).2.1, (hC root hkr).2.1]; exact hm
              · rw [(Ctx.set_ne (hne root hkroot)).1, (hC root hkr).1]; exact hA
              · rw [Ctx.set_self.2.1]; exact hd1
              · rw [hsz, ← hce]; exact hrs
              · rw [Ctx.set_self.1, Ctx.set_self.2.1, Ctx.set_self.2.2.1, hsz]; exact m1
          · cases dp <;> simp [Obj.owned] at hown
          · cases dp with
            | false =>
              have hne2 : o' ≠ root := by
                rintro rfl
                rw [hor, hrob] at ho'; cases ho'; cases hown'
              refine (h.dis o' root g' gr ob'' obr ho' hor hg' hgr hne2 hown' hvr).sub (Sub.refl _) ?_
              rw [(hC root hkr).2.2.2]; exact m3
            | true => cases hvw2
          · cases dp <;> simp [Obj.owned] at hown
        have hor' : (Γ.setOb no (G, if dp then .view root d i j et2 (cellE ti.size r j) else .row false et2 (cellE ti.size r j))).obj root = some (gr, obr) := by
          rw [Gam.obj_setOb_ne _ _ (Ne.symm (hne root hkroot))]; exact hor
        obtain ⟨C'', kn'', q1, q2, q3, q4, q5, q5v, q6, q7⟩ := rdCells_sound hG hti hd hi hr hm hA hmem hkr hko hvo hrow cks (j + 1) (no + 1) _ _ (kn'.addO no) hrec hcks hstep
          ⟨fun x hx => .inl (hle.1 x hx), hle.2⟩ (fun x hx => by
            have hx' := hne x (hle.1 x hx)
            rw [(Ctx.set_ne hx').1, (Ctx.set_ne hx').2.1, (Ctx.set_ne hx').2.2.1, (Ctx.set_ne hx').2.2.2]; exact hC x hx) hor' hgr hvr (fun x hx => hS x (by simp [hx])) (fun x h1 h2 h3 => h3.elim (hfr x (by omega) h2) (by omega))
        refine ⟨C'', kn'', q1, ⟨fun x hx => q2.1 x (.inl hx), q2.2⟩, fun x hx => ?_, by omega, fun x hx => ?_, q5v, by simp [q6], fun q l hl => ?_⟩
        · obtain ⟨e1, e2, e3⟩ := q3 x (.inl hx)
          have hx' := hne x hx
          rw [(Ctx.set_ne hx').1] at e1; rw [(Ctx.set_ne hx').2.1] at e2; rw [(Ctx.set_ne hx').2.2.1] at e3
          exact ⟨e1, e2, e3⟩
        · rcases q5 x hx with (h1 | h1) | h1
          · exact .inl h1
          · exact .inr ⟨by omega, by omega⟩
          · exact .inr ⟨by omega, h1.2⟩
        · cases q with
          | zero =>
            simp at hl; subst hl
            obtain ⟨e1, e2, e3⟩ := q3 no (.inr rfl)
            rw [Ctx.set_self.1] at e1; rw [Ctx.set_self.2.1] at e2; rw [Ctx.set_self.2.2.1] at e3
            exact ⟨_, m1, LeafRel.header (q2.1 no (.inr rfl)) e1 e2 e3 hrs hd1 hd2 hd3⟩
          | succ q =>
            obtain ⟨v', h1, h2⟩ := q7 q l (by simpa using hl)
            exact ⟨v', by rw [show j + (q + 1) = j + 1 + q by omega]; exact h1, h2⟩
    | ptr => cases hrd
    | fnc => cases hrd
    | mp => cases hrd
    | other => cases hrd

theorem Gam.appOb_append (Γ : Gam) (a b : List (Nat × Option (Grd × Obj))) : Γ.appOb (a ++ b) = (Γ.appOb a).appOb b := by
  induction a generalizing Γ with
  | nil => rfl
  | cons x r ih =>
    obtain ⟨o, x⟩ := x
    cases x <;> simp only [List.cons_append, Gam.appOb] <;> exact ih _

def anLoad (tab : Tab) (Γ : Gam) (G : Grd) (nx no : Nat) (t : TypeId) (a : Operand) : Option Res :=
  match opd Γ G a, tab.get t with
  | some (.s (.one (.pb o j))), some ti =>
    match Γ.obj o with
    | some (g, .box _ cells) =>
      if impl G g && Nat.beq ((cells.drop j).take ti.size).length ti.size then (svOf ti.agg ((cells.drop j).take ti.size)).map fun sv => ⟨sv, [], [], nx, no⟩ else none
    | _ => none
  | some (.s (.one (.pe o et i j))), some ti =>
    match rowOf Γ G o, tab.get et with
    | some (dp, et', d, vw), some te =>
      if Nat.beq et et' && Nat.beq ((te.cks.drop j).take ti.size).length ti.size then
        match rdCells o dp vw G d i te.size (if ti.agg then .var nx else .bin .idx d i) ((te.cks.drop j).take ti.size) j no with
        | some (ls, ob, si, n) => (svOf ti.agg ls).map fun sv => ⟨sv, ob, if ti.agg then (G, .set nx (.bin .idx d i)) :: si else si, if ti.agg then nx + 1 else nx, n⟩
        | none => none
      else none
    | _, _ => none
  | _, _ => none

theorem anLoad_sound (hT : TabOk P tab) (h : Rel tab Γ ρ tm w C kn Wr w0) (hG : holdsG ρ G) {t : TypeId} {x : Operand} {r : Res} (hr : anLoad tab Γ G nx no t x = some r) (hS : HoldsS I ρ r.sis)
    (hf : ∀ o, no ≤ o → o < r.no → ¬ kn.o o) {ds : List Deferred}
    {dst : Option Tmp} {ty : TypeId} {pos : String} {aft : Array Edge} {gd : Option (Nat × Bool)} :
    Yield P (execOp (Act.eval ⟨tm, ds⟩) ⟨dst, .load t x, ty, pos, aft, gd⟩) w fun v w' => Post tab Γ ρ tm C kn Wr w0 nx no r v w' := by
  unfold anLoad at hr
  unfold Yield
  split at hr
  · rename_i o j ti hx hti
    split at hr
    case h_2 => cases hr
    rename_i g rw' cells ho
    split at hr
    case isFalse => cases hr
    rename_i hc
    simp only [Bool.and_eq_true] at hc
    obtain ⟨hc1, hc2⟩ := hc
    have hc2 := Nat.eq_of_beq_eq_true hc2
    cases hsv : svOf ti.agg ((cells.drop j).take ti.size) with
    | none => rw [hsv] at hr; cases hr
    | some sv =>
      rw [hsv] at hr; cases hr
      obtain ⟨⟨hk, b, base, hA, hv⟩, _⟩ := opd_sound h hG hx (ds := ds)
      obtain ⟨b', base', hA', hF, hcell, _⟩ := (h.obs o g _ ho).2.2 (impl_sound hc1 hG)
      rw [hA] at hA'; cases hA'
      obtain ⟨v, hrun, hrel⟩ := run_load_leaves (w := w) (C := C) (ρ := ρ) (k := kn.o) hT hti (b := b) (o := base + j) hsv hc2 (fun q l hq => by
        have hq' := List.getD_some_lt hq
        rw [hc2] at hq'
        rw [List.getElem?_take_of_lt hq', List.getElem?_drop] at hq
        obtain ⟨v, h1, h2⟩ := hcell _ _ hq
        exact ⟨v, by rw [Nat.add_assoc]; exact h1, h2⟩)
      simp only [execOp, hv, Sem.run_bind, hrun, Result.andThen_ok, Sem.run_pure]
      exact ⟨_, _, rfl, Post.pure h rfl hrel⟩
  · rename_i o et i j ti hx hti
    split at hr
    case h_2 => cases hr
    rename_i dp et' d vw te hrow hte
    split at hr
    case isFalse => cases hr
    rename_i hc
    simp only [Bool.and_eq_true] at hc
    obtain ⟨hc1, hc2⟩ := hc
    have hc1 := Nat.eq_of_beq_eq_true hc1
    have hc2 := Nat.eq_of_beq_eq_true hc2
    subst hc1
    split at hr
    case h_2 => cases hr
    rename_i ls ob si n hrd
    cases hsv : svOf ti.agg ls with
    | none => rw [hsv] at hr; cases hr
    | some sv =>
      rw [hsv] at hr; cases hr
      obtain ⟨⟨hk, m, b, base, hi, hm, hA, hv⟩, _⟩ := opd_sound h hG hx (ds := ds)
      obtain ⟨rows, F', root, gr, obr, hd, hD, hroot, hgr, hvr, hsub, hvw⟩ := rowOf_sound h hG hrow
      have hsz : tab.sz et = te.size := by simp [Tab.sz, hte]
      have hkroot := (h.obs root gr obr hroot).1
      have hr0 : den ρ (if ti.agg then Exp.var nx else .bin .idx d i) = den ρ (.bin .idx d i) := by
        by_cases ha : ti.agg = true
        · rw [if_pos ha]
          simp only at hS
          rw [if_pos ha] at hS
          exact hS (G, .set nx (.bin .idx d i)) (by simp) hG
        · rw [if_neg ha]
      have hSsi : HoldsS I ρ si := by
        simp only at hS
        intro y hy
        refine hS y ?_
        split
        · exact List.mem_cons_of_mem _ hy
        · exact hy
      rw [hA] at hD
      obtain ⟨C'', kn'', q1, q2, q3, q4, q5, q5v, q6, q7⟩ := rdCells_sound (I := I) (C := C) (kn := kn) (root := root) (gr := gr) (obr := obr) (pet := et) hG hte hd hi hr0 hm hA
        (fun q ck hq => by
          obtain ⟨v, Fx, g1, g2, g3⟩ := hD.get hte hm hq
          exact ⟨v, Fx, g1, g2, g3.trans hsub⟩) hkroot hk (fun hvw' hdp => by
          obtain ⟨e1, e2⟩ := hvw hvw'
          have := (h.obs root gr obr hroot).2.1
          rw [e2, hdp] at this
          exact this) hvw _ j no Γ C kn hrd (fun q ck hq => by
          have hq' := List.getD_some_lt hq
          rw [hc2] at hq'
          rw [List.getElem?_take_of_lt hq', List.getElem?_drop] at hq; exact hq) h (Kn.le.refl _) (fun _ _ => ⟨rfl, rfl, rfl, rfl⟩) hroot hgr hvr hSsi hf
      obtain ⟨v, hrun, hrel⟩ := run_load_leaves (w := w) (C := C'') (ρ := ρ) (k := kn''.o) hT hti (b := b) (o := base + m * te.size + j) hsv (by rw [q6, hc2]) (fun q l hq => by
        obtain ⟨v, h1, h2⟩ := q7 q l hq
        exact ⟨v, by rw [Nat.add_assoc]; exact h1, h2⟩)
      rw [hsz] at hv
      simp only [execOp, hv, Sem.run_bind, hrun, Result.andThen_ok, Sem.run_pure]
      exact ⟨_, _, rfl, C'', kn'', q1, hrel, ⟨q2, fun o ho => q3 o ho⟩, q5, fun x hx => .inl (q5v x hx)⟩
  · cases hr

def anNil (Γ : Gam) (G : Grd) (nx no : Nat) (x : Operand) : Option Res :=
  match opd Γ G x with
  | some (.s (.one (.pb o j))) => some ⟨.s (.one (.pb o j)), [], [], nx, no⟩
  | some (.s (.one (.pe o et i j))) => some ⟨.s (.one (.pe o et i j)), [], [], nx, no⟩
  | some (.s (.one (.fn f c))) => some ⟨.s (.one (.fn f c)), [], [], nx, no⟩
  | _ => none
theorem anNil_sound (h : Rel tab Γ ρ tm w C kn Wr w0) (hG : holdsG ρ G) {x : Operand} {r : Res} (hr : anNil Γ G nx no x = some r) {ds : List Deferred}
    {dst : Option Tmp} {ty : TypeId} {pos : String} {aft : Array Edge} {gd : Option (Nat × Bool)} :
    Yield P (execOp (Act.eval ⟨tm, ds⟩) ⟨dst, .nilCheck x, ty, pos, aft, gd⟩) w fun v w' => Post tab Γ ρ tm C kn Wr w0 nx no r v w' := by
  unfold anNil at hr
  unfold Yield
  split at hr
  · rename_i o j hx
    cases hr
    have hsv := opd_sound h hG hx (ds := ds)
    obtain ⟨⟨hk, b, base, hA, hv⟩, _⟩ := hsv
    simp only [execOp, hv, Sem.run_pure]
    exact ⟨_, _, rfl, Post.pure h rfl (by rw [← hv]; exact opd_sound h hG hx)⟩
  · rename_i o et i j hx
    cases hr
    have hsv := opd_sound h hG hx (ds := ds)
    obtain ⟨⟨hk, m, b, base, hi, hm, hA, hv⟩, _⟩ := hsv
    simp only [execOp, hv, Sem.run_pure]
    exact ⟨_, _, rfl, Post.pure h rfl (by rw [← hv]; exact opd_sound h hG hx)⟩
  · rename_i f c hx
    cases hr
    have hsv := opd_sound h hG hx (ds := ds)
    obtain ⟨⟨vs, hv, hrest⟩, _⟩ := hsv
    simp only [execOp, hv, Sem.run_pure]
    exact ⟨_, _, rfl, Post.pure h rfl (by rw [← hv]; exact opd_sound h hG hx)⟩
  · cases hr

def capOf : SV → Option Nat
  | .s (.one (.pb o 0)) => some o
  | _ => none
def anFunc (Γ : Gam) (G : Grd) (nx no : Nat) (f : Fn) (first captured : Array Operand) : Option Res :=
  match f, first.toList, captured.toList.mapM fun x => (opd Γ G x).bind capOf with
  | .func f, [], some caps => some ⟨.s (.one (.fn f caps)), [], [], nx, no⟩
  | _, _, _ => none
theorem anFunc_sound (h : Rel tab Γ ρ tm w C kn Wr w0) (hG : holdsG ρ G) {f : Fn} {first captured : Array Operand} {r : Res} (hr : anFunc Γ G nx no f first captured = some r) {ds : List Deferred}
    {dst : Option Tmp} {ty : TypeId} {pos : String} {aft : Array Edge} {gd : Option (Nat × Bool)} :
    Yield P (execOp (Act.eval ⟨tm, ds⟩) ⟨dst, .makeFunc f first captured, ty, pos, aft, gd⟩) w fun v w' => Post tab Γ ρ tm C kn Wr w0 nx no r v w' := by
  unfold anFunc at hr
  unfold Yield
  split at hr
  case h_2 => cases hr
  rename_i f caps hfirst hcaps
  cases hr
  have hfirst : first = #[] := by apply Array.ext'; simpa using hfirst
  subst hfirst
  obtain ⟨h1, h2⟩ := mapM_get hcaps
  simp only [execOp, Instr.makeFunc, Sem.run_bind, Sem.run_pure, Result.andThen_ok]
  refine ⟨_, _, rfl, Post.pure h rfl ⟨⟨captured.map (Act.eval ⟨tm, ds⟩), by simp, by simpa using h1.symm, fun i o hi => ?_⟩, fun cs => by simp⟩⟩
  obtain ⟨x, hx1, hx2⟩ := h2 i o hi
  cases hx : opd Γ G x with
  | none => rw [hx] at hx2; cases hx2
  | some sv =>
    rw [hx] at hx2
    simp only [Option.bind_some] at hx2
    unfold capOf at hx2
    split at hx2
    · cases hx2
      obtain ⟨⟨hk, b, base, hA, hv⟩, _⟩ := opd_sound h hG hx (ds := ds)
      refine ⟨hk, b, base, hA, ?_⟩
      have : captured[i]? = some x := by simpa using hx1
      rw [Array.getElem?_map, this]
      simp only [Option.map_some, hv, Nat.add_zero]
    · cases hx2
end
end Gp
