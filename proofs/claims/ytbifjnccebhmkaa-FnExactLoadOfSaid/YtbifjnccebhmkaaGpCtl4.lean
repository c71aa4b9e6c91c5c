/- Gp, part 30: a function's code, analysed and proved. -/
import Derived.Test.YtbifjnccebhmkaaGpPP2
set_option linter.unusedVariables false
set_option linter.unusedSimpArgs false
namespace Gp
open Go

inductive Hint where
  | nil
  | reg (masks : List Nat)
  | seq (a b : Hint)
  | cond (J : Option Join) (a b : Hint)
  | block (J : Join) (a : Hint)
  | blockN (a : Hint)
  | loop (J : Join) (a : Hint)
  | wrap (pre : PP) (h : Hint) (post : PP)
  deriving Repr, Inhabited

/-- What stands fast while one function is analysed. -/
structure AX where
  tab : Tab
  sigs : List Sig
  nt : Nat
  S : Sig
  res : List ResultVar
  no0 : Nat

def movTo (J : Join) (es : List Exp) : PI := .sis [([], .mov J.nb es)]
def AX.E (X : AX) : List Nat := X.S.obs.map (·.1)
def toJ (X : AX) (p : PI) (r : Option Pt) (J : Join) : Option PI :=
  match r with
  | none => some p
  | some (Γ, _, _) => if Nat.ble X.no0 J.no then match coe X.tab X.E Γ J with
    | some es => some (.seq p (movTo J es))
    | none => none
    else none

def Join.pt (J : Join) : Pt := (J.full, J.nb + J.cnt, J.no)
def condE (Γ : Gam) (c : Operand) : Option Exp := match opd Γ [] c with
  | some (.s (.one (.bool e))) => some e
  | _ => none

/-- What is done ahead of a part of code and behind it. -/
def ppW (X : AX) (f : Hint → Pt → Option (PI × Option Pt)) (h : Hint) (pt : Pt) : Option (PI × Option Pt) :=
  match h with
  | .wrap pre h post => match ppRun X.tab pre pt with
    | some (s1, pt1) => match f h pt1 with
      | some (p, some pt2) => match ppRun X.tab post pt2 with
        | some (s2, pt3) => some (.seq (.sis s1) (.seq p (.sis s2)), some pt3)
        | none => none
      | some (p, none) => some (.seq (.sis s1) p, none)
      | none => none
    | none => none
  | h => f h pt

def anCode (X : AX) : Code → Hint → List (Nat × Join) → Pt → Option (PI × Option Pt)
  | .skip, h, _, pt => ppW X (fun _ pt => some (.skip, some pt)) h pt
  | .region _ ops draw, h, _, pt => ppW X (fun h pt => match anReg X.tab X.sigs X.nt pt.1 pt.2.1 pt.2.2 ops draw (match h with | .reg ms => ms | _ => []) with
    | some (sis, pt) => some (.sis sis, some pt)
    | none => none) h pt
  | .seq a b, h, blk, pt => ppW X (fun h pt => match h with
    | .seq ha hb => match anCode X a ha blk pt with
      | some (pa, none) => some (pa, none)
      | some (pa, some pt1) => match anCode X b hb blk pt1 with
        | some (pb, r) => some (.seq pa pb, r)
        | none => none
      | none => none
    | _ => none) h pt
  | .cond c a b, h, blk, pt => ppW X (fun h pt => match h with
    | .cond J ha hb => match condE pt.1 c, anCode X a ha blk pt, anCode X b hb blk pt with
      | some e, some (pa, none), some (pb, rb) => some (.cond e pa pb, rb)
      | some e, some (pa, some ra), some (pb, none) => some (.cond e pa pb, some ra)
      | some e, some (pa, some ra), some (pb, some rb) => match J with
        | some J => match toJ X pa (some ra) J, toJ X pb (some rb) J with
          | some pa', some pb' => some (.cond e pa' pb', some J.pt)
          | _, _ => none
        | none => none
      | _, _, _ => none
    | _ => none) h pt
  | .block id a, h, blk, pt => ppW X (fun h pt => match h with
    | .block J ha => match anCode X a ha ((id, J) :: blk) pt with
      | some (pa, ra) => match toJ X pa ra J with
        | some p => some (.block id p, some J.pt)
        | none => none
      | none => none
    | .blockN ha => match anCode X a ha (drop id blk) pt with
      | some (pa, none) => some (.block id pa, none)
      | _ => none
    | _ => none) h pt
  | .loop a, h, blk, pt => ppW X (fun h pt => match h with
    | .loop J ha => match coe X.tab X.E pt.1 J, anCode X a ha blk J.pt with
      | some es, some (pa, ra) => if Nat.ble X.no0 J.no then match toJ X pa ra J with
        | some p => some (.seq (movTo J es) (.loop p), none)
        | none => none
        else none
      | _, _ => none
    | _ => none) h pt
  | .exit id, h, blk, pt => ppW X (fun _ pt => match look id blk with
    | some J => if Nat.ble X.no0 J.no then match coe X.tab X.E pt.1 J with
      | some es => some (.seq (movTo J es) (.exit id), none)
      | none => none
      else none
    | none => none) h pt
  | .ret, h, _, pt => ppW X (fun _ pt => match anRet X.tab X.S pt.1 X.res with
    | some es => some (.ret es, none)
    | none => none) h pt
  | _, _, _, _ => none

section
variable {P : Program} {X : AX} {C0 : Ctx} {w0 : World} {fn : Func}

def At (X : AX) (C0 : Ctx) (w0 : World) (pt : Pt) (ρ : Env) (a : Act) (w : World) : Prop :=
  ∃ kn, St X.tab X.nt (· ∈ X.E) C0 pt.1 ρ a w [] kn (WrOf X.S.obs C0) w0 ∧ kn.below pt.2.1 pt.2.2 ∧ X.no0 ≤ pt.2.2
def Fin (P : Program) (X : AX) (C0 : Ctx) (w0 : World) (fn : Func) (outs : List T) (a : Act) (w : World) : Prop :=
  a.defers = [] ∧ ∃ v C', (Go.results fn a.tmps).run P w = .ok v w ∧ OutRel X.tab X.S (envOf outs) C0 C' w0 w v
def CPost (P : Program) (X : AX) (C0 : Ctx) (w0 : World) (fn : Func) (blk : List (Nat × Join)) (r : Option Pt) (ex : Ex) (ρ' : Env) (e : Exit) (a : Act) (w : World) : Prop :=
  match ex with
  | .normal => e = .normal ∧ ∃ pt, r = some pt ∧ At X C0 w0 pt ρ' a w
  | .exit id => e = .exit id ∧ ∃ J, look id blk = some J ∧ At X C0 w0 J.pt ρ' a w
  | .ret outs => e = .ret ∧ Fin P X C0 w0 fn outs a w

def LoopW (P : Program) (c : Code) (Q : Exit → Act → World → Prop) (a : Act) (w : World) : Prop :=
  ∀ (b : Go.Frame) (k : List Item) (cs : List Go.Frame), ∃ e a' w', Q e a' w' ∧ Arrives P (lone (b.at a (.code c :: .inLoop c :: k)) cs w) b k cs e a' w'
theorem loopW_step {c : Code} {Q : Exit → Act → World → Prop} {a : Act} {w : World} (h : c.wp P (Exit.then (LoopW P c Q) Q) a w) : LoopW P c Q a w := by
  intro b k cs
  obtain ⟨e, a₁, w₁, hq, harr⟩ := h b (.inLoop c :: k) cs
  cases e with
  | normal =>
    obtain ⟨e₂, a₂, w₂, hq₂, harr₂⟩ := hq b k cs
    exact ⟨e₂, a₂, w₂, hq₂, .of_steps (Steps.trans harr (.one step_inLoop)) harr₂⟩
  | exit id => exact ⟨_, a₁, w₁, hq, .pass (x := .inLoop c) rfl (fun _ _ => .inl (by simp)) harr⟩
  | goto l => exact ⟨_, a₁, w₁, hq, .pass (x := .inLoop c) rfl (fun _ _ => .inl (by simp)) harr⟩
  | ret => exact ⟨_, a₁, w₁, hq, .pass (x := .inLoop c) rfl (fun _ _ => .inl (by simp)) harr⟩
  | panic ch => exact ⟨_, a₁, w₁, hq, .pass (x := .inLoop c) rfl (fun _ _ => .inl (by simp)) harr⟩
  | outgrown => exact ⟨_, a₁, w₁, hq, .pass (x := .inLoop c) rfl (fun _ _ => .inl (by simp)) harr⟩
theorem loopW_wp {c : Code} {Q : Exit → Act → World → Prop} {a : Act} {w : World} (h : LoopW P c Q a w) : (Code.loop c).wp P Q a w := by
  intro b k cs
  obtain ⟨e, a', w', hq, harr⟩ := h b k cs
  exact ⟨e, a', w', hq, .of_steps (.one step_loop) harr⟩

variable {J : Nat → List T → List T → Prop}
theorem bigC_mov {Jn : Join} {es : List Exp} {ρ ρ' : Env} {ex : Ex} (h : BigC J (movTo Jn es) ρ ex ρ') : ex = .normal ∧ ρ' = updL ρ Jn.nb (es.map (den ρ)) := by
  unfold movTo at h
  cases h with
  | off hn _ => exact absurd trivial hn
  | mov _ h => cases h; exact ⟨rfl, rfl⟩

theorem At.coe (hT : TabOk P X.tab) {Γ : Gam} {nx no : Nat} {ρ : Env} {a : Act} {w : World} (h : At X C0 w0 (Γ, nx, no) ρ a w) {Jn : Join} {es : List Exp} (hc : coe X.tab X.E Γ Jn = some es) (hno : X.no0 ≤ Jn.no) :
    At X C0 w0 Jn.pt (updL ρ Jn.nb (es.map (den ρ))) a w := by
  obtain ⟨kn, h1, h2, h3⟩ := h
  obtain ⟨e1, kn', h4, h5⟩ := coe_sound hT h1 hc
  exact ⟨kn', h4, h5, hno⟩

theorem toJ_sound (hT : TabOk P X.tab) {c : Code} {pa p : PI} {r : Option Pt} {Jn : Join} {blk : List (Nat × Join)} {ρ ρ' : Env} {ex : Ex} {a : Act} {w : World} (ht : toJ X pa r Jn = some p) (hb : BigC J p ρ ex ρ')
    (h : ∀ ex1 ρ1, BigC J pa ρ ex1 ρ1 → c.wp P (CPost P X C0 w0 fn blk r ex1 ρ1) a w) : c.wp P (CPost P X C0 w0 fn blk (some Jn.pt) ex ρ') a w := by
  unfold toJ at ht
  split at ht
  · cases ht
    refine wp_mono (h ex ρ' hb) fun e a w hq => ?_
    cases ex with
    | normal => obtain ⟨_, pt, h1, _⟩ := hq; cases h1
    | exit id => exact hq
    | ret outs => exact hq
  · rename_i Γ nx no
    split at ht
    case isFalse => cases ht
    rename_i hno
    have hno : X.no0 ≤ Jn.no := Nat.le_of_ble_eq_true hno
    split at ht
    case h_2 => cases ht
    rename_i es hes
    cases ht
    cases hb with
    | seq h1 h2 =>
      obtain ⟨rfl, rfl⟩ := bigC_mov h2
      refine wp_mono (h _ _ h1) fun e a w hq => ?_
      obtain ⟨q1, pt, q2, q3⟩ := hq
      cases q2
      exact ⟨q1, _, rfl, q3.coe hT hes hno⟩
    | seqOut h1 hne =>
      refine wp_mono (h _ _ h1) fun e a w hq => ?_
      cases ex with
      | normal => exact absurd rfl hne
      | exit id => exact hq
      | ret outs => exact hq

theorem CPost.lift {blk : List (Nat × Join)} {r r' : Option Pt} {ex : Ex} {ρ' : Env} {e : Exit} {a : Act} {w : World} (h : CPost P X C0 w0 fn blk r ex ρ' e a w) (hr : ∀ pt, r = some pt → r' = some pt) : CPost P X C0 w0 fn blk r' ex ρ' e a w := by
  cases ex with
  | normal => obtain ⟨h1, pt, h2, h3⟩ := h; exact ⟨h1, pt, hr pt h2, h3⟩
  | exit id => exact h
  | ret outs => exact h

theorem At.pp {x : PP} {pt pt' : Pt} {sis : List (Grd × SI)} {ρ ρ' : Env} {ex : Ex} {a : Act} {w : World} (hE : ∀ o ∈ X.E, o < X.no0) (h : At X C0 w0 pt ρ a w) (hr : ppRun X.tab x pt = some (sis, pt'))
    (hb : BigC (CallOk P X.tab X.sigs) (.sis sis) ρ ex ρ') : ex = .normal ∧ At X C0 w0 pt' ρ' a w := by
  obtain ⟨kn, h1, h2, h3⟩ := h
  obtain ⟨e1, e2, kn', e3, e4⟩ := ppRun_sound hr h1 (fun o ho => by have := hE o ho; omega) h2 hb
  exact ⟨e1, kn', e3, e4, by omega⟩
theorem ppW_sound {c : Code} {blk : List (Nat × Join)} {a : Act} {w : World} {f : Hint → Pt → Option (PI × Option Pt)} (hE : ∀ o ∈ X.E, o < X.no0)
    (hf : ∀ {h : Hint} {pt : Pt} {p : PI} {r : Option Pt} {ρ ρ' : Env} {ex : Ex}, f h pt = some (p, r) → BigC (CallOk P X.tab X.sigs) p ρ ex ρ' → At X C0 w0 pt ρ a w → c.wp P (CPost P X C0 w0 fn blk r ex ρ') a w)
    {h : Hint} {pt : Pt} {p : PI} {r : Option Pt} {ρ ρ' : Env} {ex : Ex} (hc : ppW X f h pt = some (p, r)) (hb : BigC (CallOk P X.tab X.sigs) p ρ ex ρ') (hat : At X C0 w0 pt ρ a w) : c.wp P (CPost P X C0 w0 fn blk r ex ρ') a w := by
  unfold ppW at hc
  split at hc
  · rename_i pre h post
    split at hc
    case h_2 => cases hc
    rename_i s1 pt1 h1
    split at hc
    · rename_i p0 pt2 h2
      split at hc
      case h_2 => cases hc
      rename_i s2 pt3 h3
      cases hc
      cases hb with
      | seq hb1 hb2 =>
        have hat1 := (hat.pp hE h1 hb1).2
        cases hb2 with
        | seq hb3 hb4 =>
          refine wp_mono (hf h2 hb3 hat1) fun e a w hq => ?_
          obtain ⟨q1, pt', q2, q3⟩ := hq
          cases q2
          obtain ⟨e1, e2⟩ := q3.pp hE h3 hb4
          subst e1
          exact ⟨q1, _, rfl, e2⟩
        | seqOut hb3 hne =>
          refine wp_mono (hf h2 hb3 hat1) fun e a w hq => ?_
          cases ex with
          | normal => exact absurd rfl hne
          | exit id => exact hq
          | ret outs => exact hq
      | seqOut hb1 hne => exact absurd (hat.pp hE h1 hb1).1 hne
    · rename_i p0 h2
      cases hc
      cases hb with
      | seq hb1 hb2 => exact hf h2 hb2 (hat.pp hE h1 hb1).2
      | seqOut hb1 hne => exact absurd (hat.pp hE h1 hb1).1 hne
    · cases hc
  · exact hf hc hb hat

theorem anCode_sound (hT : TabOk P X.tab) (hm : P.follows .mixedOrders = true) (hres : X.res = fn.results.toList) (hE : ∀ o ∈ X.E, o < X.no0) : ∀ (c : Code) {h : Hint} {blk : List (Nat × Join)} {pt : Pt} {p : PI} {r : Option Pt} {ρ ρ' : Env} {ex : Ex} {a : Act} {w : World},
    anCode X c h blk pt = some (p, r) → BigC (CallOk P X.tab X.sigs) p ρ ex ρ' → At X C0 w0 pt ρ a w → c.wp P (CPost P X C0 w0 fn blk r ex ρ') a w := by
  intro c
  induction c with
  | skip =>
    intro h blk pt p r ρ ρ' ex a w hc hb hat
    simp only [anCode] at hc
    refine ppW_sound hE (fun {h pt p r ρ ρ' ex} hc hb hat => ?_) hc hb hat
    cases hc
    cases hb
    exact wp_skip ⟨rfl, pt, rfl, hat⟩
  | region id ops draw =>
    intro h blk pt p r ρ ρ' ex a w hc hb hat
    simp only [anCode] at hc
    refine ppW_sound hE (fun {h pt p r ρ ρ' ex} hc hb hat => ?_) hc hb hat
    obtain ⟨Γ, nx, no⟩ := pt
    simp only [anCode] at hc
    split at hc
    case h_2 => cases hc
    rename_i sis pt' hreg
    cases hc
    obtain ⟨Γ', nx', no'⟩ := pt'
    obtain ⟨kn, h1, h2, h3⟩ := hat
    have key := fun Q hQ => anReg_sound (Q := Q) (id := id) hT hm hreg h1 (fun o ho => by have := hE o ho; have h3' : X.no0 ≤ no := h3; omega) h2 hb hQ
    obtain ⟨rfl, hnx, hno, _⟩ := key (fun _ _ _ => True) (fun _ _ _ _ _ => trivial)
    exact (key _ fun a' w' kn' q1 q2 => ⟨rfl, (Γ', nx', no'), rfl, kn', q1, q2, Nat.le_trans h3 hno⟩).2.2.2
  | seq c1 c2 ih1 ih2 =>
    intro h blk pt p r ρ ρ' ex a w hc hb hat
    simp only [anCode] at hc
    refine ppW_sound hE (fun {h pt p r ρ ρ' ex} hc hb hat => ?_) hc hb hat
    cases h <;> try (dsimp only at hc; cases hc)
    rename_i ha hb'
    dsimp only at hc
    split at hc
    · rename_i pa h1
      cases hc
      refine wp_seq (wp_mono (ih1 h1 hb hat) fun e a w hq => ?_)
      cases ex with
      | normal => obtain ⟨_, _, h2, _⟩ := hq; cases h2
      | exit id => obtain ⟨rfl, h2⟩ := hq; exact ⟨rfl, h2⟩
      | ret outs => obtain ⟨rfl, h2⟩ := hq; exact ⟨rfl, h2⟩
    · rename_i pa pt1 h1
      split at hc
      case h_2 => cases hc
      rename_i pb r2 h2
      cases hc
      cases hb with
      | seq hb1 hb2 =>
        refine wp_seq (wp_mono (ih1 h1 hb1 hat) fun e a w hq => ?_)
        obtain ⟨rfl, pt', q1, q2⟩ := hq
        cases q1
        exact ih2 h2 hb2 q2
      | seqOut hb1 hne =>
        refine wp_seq (wp_mono (ih1 h1 hb1 hat) fun e a w hq => ?_)
        cases ex with
        | normal => exact absurd rfl hne
        | exit id => obtain ⟨rfl, h2⟩ := hq; exact ⟨rfl, h2⟩
        | ret outs => obtain ⟨rfl, h2⟩ := hq; exact ⟨rfl, h2⟩
    · cases hc
  | cond cnd c1 c2 ih1 ih2 =>
    intro h blk pt p r ρ ρ' ex a w hc hb hat
    simp only [anCode] at hc
    refine ppW_sound hE (fun {h pt p r ρ ρ' ex} hc hb hat => ?_) hc hb hat
    cases h <;> try (dsimp only at hc; cases hc)
    rename_i Jn ha hb'
    dsimp only at hc
    have hcnd : ∀ e, condE pt.1 cnd = some e → ∃ b, den ρ e = .bool b ∧ a.eval cnd = .bool b := by
      intro e he
      unfold condE at he
      split at he
      · rename_i e' ho
        cases he
        obtain ⟨kn, ⟨⟨C, hrel, _⟩, _⟩, _⟩ := hat
        obtain ⟨⟨b, h1, h2⟩, _⟩ := opd_sound (ds := a.defers) hrel (G := []) trivial ho
        exact ⟨b, h1, h2⟩
      · cases he
    split at hc
    · rename_i e pa pb rb he h1 h2
      cases hc
      obtain ⟨b, hb1, hb2⟩ := hcnd e he
      cases hb with
      | yes he' hb' =>
        rw [hb1] at he'; cases he'
        exact wp_cond_true hb2 (wp_mono (ih1 h1 hb' hat) fun e a w hq => hq.lift fun pt h => by cases h)
      | no he' hb' =>
        rw [hb1] at he'; cases he'
        exact wp_cond_false hb2 (ih2 h2 hb' hat)
    · rename_i e pa ra pb he h1 h2
      cases hc
      obtain ⟨b, hb1, hb2⟩ := hcnd e he
      cases hb with
      | yes he' hb' =>
        rw [hb1] at he'; cases he'
        exact wp_cond_true hb2 (ih1 h1 hb' hat)
      | no he' hb' =>
        rw [hb1] at he'; cases he'
        exact wp_cond_false hb2 (wp_mono (ih2 h2 hb' hat) fun e a w hq => hq.lift fun pt h => by cases h)
    · rename_i e pa ra pb rb he h1 h2
      split at hc
      case h_2 => cases hc
      rename_i Jn
      split at hc
      case h_2 => cases hc
      rename_i pa' pb' t1 t2
      cases hc
      obtain ⟨b, hb1, hb2⟩ := hcnd e he
      cases hb with
      | yes he' hb' =>
        rw [hb1] at he'; cases he'
        exact wp_cond_true hb2 (toJ_sound hT t1 hb' fun ex1 ρ1 hh => ih1 h1 hh hat)
      | no he' hb' =>
        rw [hb1] at he'; cases he'
        exact wp_cond_false hb2 (toJ_sound hT t2 hb' fun ex1 ρ1 hh => ih2 h2 hh hat)
    · cases hc
  | block id c ih =>
    intro h blk pt p r ρ ρ' ex a w hc hb hat
    simp only [anCode] at hc
    refine ppW_sound hE (fun {h pt p r ρ ρ' ex} hc hb hat => ?_) hc hb hat
    cases h <;> try (dsimp only at hc; cases hc)
    case blockN ha =>
      dsimp only at hc
      split at hc
      case h_2 => cases hc
      rename_i pa h1
      cases hc
      refine wp_block ?_
      cases hb with
      | block hb' =>
        refine wp_mono (ih h1 hb' hat) fun e a w hq => ?_
        obtain ⟨_, pt, h2, _⟩ := hq; cases h2
      | blockIn hb' =>
        refine wp_mono (ih h1 hb' hat) fun e a w hq => ?_
        obtain ⟨_, Jx, h2, _⟩ := hq
        rw [look_drop_self] at h2; cases h2
      | blockOut hb' hne hni =>
        refine wp_mono (ih h1 hb' hat) fun e a w hq => ?_
        cases ex with
        | normal => exact absurd rfl hne
        | exit id' =>
          obtain ⟨rfl, Jx, h2, h3⟩ := hq
          have hid : id ≠ id' := fun e => hni (by rw [e])
          rw [look_drop_ne hid] at h2
          show Exit.inBlock id _ (.exit id') a w
          simp only [Exit.inBlock, if_neg (Ne.symm hid)]
          exact ⟨rfl, Jx, h2, h3⟩
        | ret outs =>
          obtain ⟨rfl, h2⟩ := hq
          exact ⟨rfl, h2⟩
    rename_i Jn ha
    dsimp only at hc
    split at hc
    case h_2 => cases hc
    rename_i pa ra h1
    split at hc
    case h_2 => cases hc
    rename_i p' t1
    cases hc
    have hsub : ∀ ex1 ρ1, BigC (CallOk P X.tab X.sigs) p' ρ ex1 ρ1 → c.wp P (CPost P X C0 w0 fn ((id, Jn) :: blk) (some Jn.pt) ex1 ρ1) a w :=
      fun ex1 ρ1 hh => toJ_sound hT t1 hh fun ex2 ρ2 hh2 => ih h1 hh2 hat
    refine wp_block ?_
    cases hb with
    | block hb' =>
      refine wp_mono (hsub _ _ hb') fun e a w hq => ?_
      obtain ⟨rfl, h2⟩ := hq
      exact ⟨rfl, h2⟩
    | blockIn hb' =>
      refine wp_mono (hsub _ _ hb') fun e a w hq => ?_
      obtain ⟨rfl, Jx, h2, h3⟩ := hq
      rw [look_cons_self] at h2; cases h2
      show Exit.inBlock id _ (.exit id) a w
      simp only [Exit.inBlock, if_true]
      exact ⟨rfl, _, rfl, h3⟩
    | blockOut hb' hne hni =>
      refine wp_mono (hsub _ _ hb') fun e a w hq => ?_
      cases ex with
      | normal => exact absurd rfl hne
      | exit id' =>
        obtain ⟨rfl, Jx, h2, h3⟩ := hq
        have hid : id ≠ id' := fun e => hni (by rw [e])
        rw [look_cons_ne hid] at h2
        show Exit.inBlock id _ (.exit id') a w
        simp only [Exit.inBlock, if_neg (Ne.symm hid)]
        exact ⟨rfl, Jx, h2, h3⟩
      | ret outs =>
        obtain ⟨rfl, h2⟩ := hq
        exact ⟨rfl, h2⟩
  | loop c ih =>
    intro h blk pt p r ρ ρ' ex a w hc hb hat
    simp only [anCode] at hc
    refine ppW_sound hE (fun {h pt p r ρ ρ' ex} hc hb hat => ?_) hc hb hat
    cases h <;> try (dsimp only at hc; cases hc)
    rename_i Jn ha
    dsimp only at hc
    split at hc
    case h_2 => cases hc
    rename_i es pa ra hes h1
    split at hc
    case isFalse => cases hc
    rename_i hno
    have hno : X.no0 ≤ Jn.no := Nat.le_of_ble_eq_true hno
    split at hc
    case h_2 => cases hc
    rename_i p' t1
    cases hc
    have hsub : ∀ ρ ex1 ρ1 a w, At X C0 w0 Jn.pt ρ a w → BigC (CallOk P X.tab X.sigs) p' ρ ex1 ρ1 → c.wp P (CPost P X C0 w0 fn blk (some Jn.pt) ex1 ρ1) a w :=
      fun ρ ex1 ρ1 a w hat hh => toJ_sound hT t1 hh fun ex2 ρ2 hh2 => ih h1 hh2 hat
    have hloop : ∀ {q : PI} {ρ : Env} {ex : Ex} {ρ' : Env}, BigC (CallOk P X.tab X.sigs) q ρ ex ρ' → q = .loop p' → ∀ a w, At X C0 w0 Jn.pt ρ a w → LoopW P c (CPost P X C0 w0 fn blk none ex ρ') a w := by
      intro q ρ ex ρ' hq
      induction hq with
      | loop hb1 _ _ ih2 =>
        intro e a w hat
        cases e
        refine loopW_step (wp_mono (hsub _ _ _ a w hat hb1) fun e a w hq => ?_)
        obtain ⟨rfl, pt', q1, q2⟩ := hq
        cases q1
        exact ih2 rfl a w q2
      | @loopOut a' ρ ex' ρ1 hb1 hne _ =>
        intro e a w hat
        cases e
        refine loopW_step (wp_mono (hsub _ _ _ a w hat hb1) fun e a w hq => ?_)
        cases ex' with
        | normal => exact absurd rfl hne
        | exit id => obtain ⟨rfl, h2⟩ := hq; exact ⟨rfl, h2⟩
        | ret outs => obtain ⟨rfl, h2⟩ := hq; exact ⟨rfl, h2⟩
      | _ => intro e; cases e
    obtain ⟨Γ, nx, no⟩ := pt
    cases hb with
    | seq hb1 hb2 =>
      obtain ⟨_, rfl⟩ := bigC_mov hb1
      exact loopW_wp (hloop hb2 rfl a w (hat.coe hT hes hno))
    | seqOut hb1 hne =>
      obtain ⟨rfl, _⟩ := bigC_mov hb1
      exact absurd rfl hne
  | exit id =>
    intro h blk pt p r ρ ρ' ex a w hc hb hat
    simp only [anCode] at hc
    refine ppW_sound hE (fun {h pt p r ρ ρ' ex} hc hb hat => ?_) hc hb hat
    split at hc
    case h_2 => cases hc
    rename_i Jn hJ
    split at hc
    case isFalse => cases hc
    rename_i hno
    have hno : X.no0 ≤ Jn.no := Nat.le_of_ble_eq_true hno
    split at hc
    case h_2 => cases hc
    rename_i es hes
    cases hc
    obtain ⟨Γ, nx, no⟩ := pt
    cases hb with
    | seq hb1 hb2 =>
      obtain ⟨_, rfl⟩ := bigC_mov hb1
      cases hb2
      exact wp_exit ⟨rfl, Jn, hJ, hat.coe hT hes hno⟩
    | seqOut hb1 hne =>
      obtain ⟨rfl, _⟩ := bigC_mov hb1
      exact absurd rfl hne
  | ret =>
    intro h blk pt p r ρ ρ' ex a w hc hb hat
    simp only [anCode] at hc
    refine ppW_sound hE (fun {h pt p r ρ ρ' ex} hc hb hat => ?_) hc hb hat
    split at hc
    case h_2 => cases hc
    rename_i es hes
    cases hc
    cases hb
    obtain ⟨kn, h1, h2, h3⟩ := hat
    rw [hres] at hes
    obtain ⟨v, C', v1, v2⟩ := anRet_sound hT h1 hes
    exact wp_ret ⟨rfl, h1.defers, v, C', v1, v2⟩
  | rangeFunc => intro h blk pt p r ρ ρ' ex a w hc; simp only [anCode] at hc; cases hc
  | scope => intro h blk pt p r ρ ρ' ex a w hc; simp only [anCode] at hc; cases hc
  | label => intro h blk pt p r ρ ρ' ex a w hc; simp only [anCode] at hc; cases hc
  | goto => intro h blk pt p r ρ ρ' ex a w hc; simp only [anCode] at hc; cases hc
  | refuse => intro h blk pt p r ρ ρ' ex a w hc; simp only [anCode] at hc; cases hc

def inTm : List S1 → Nat → List (Nat × (Grd × SV))
  | [], _ => []
  | x :: l, i => (i, ([], .s x)) :: inTm l (i + 1)
theorem look_inTm : ∀ (l : List S1) (k t : Nat) {y : Grd × SV}, look t (inTm l k) = some y → k ≤ t ∧ ∃ x, l[t - k]? = some x ∧ y = ([], .s x)
  | [], _, _, _, h => by simp [inTm, look] at h
  | x :: l, k, t, y, h => by
    simp only [inTm] at h
    by_cases e : k = t
    · subst e; rw [look_cons_self] at h; cases h
      exact ⟨Nat.le_refl _, x, by simp, rfl⟩
    · rw [look_cons_ne e] at h
      obtain ⟨h1, x', h2, h3⟩ := look_inTm l (k + 1) t h
      exact ⟨by omega, x', by rw [show t - k = (t - (k + 1)) + 1 by omega]; simpa using h2, h3⟩

/-- A function's analysis: its pure program. -/
def anFn (X : AX) (c : Code) (h : Hint) : Option PI :=
  if X.S.obs.all (fun x => verChk X.S.nin x.2 && Nat.blt x.1 X.no0) && Nat.ble X.S.ins.length X.nt then
    match anCode X c h [] (⟨inTm X.S.ins 0, X.S.obs.map fun p => (p.1, ([], p.2))⟩, X.S.nin, X.no0) with
    | some (p, none) => some p
    | some (p, some (Γ, _, _)) => match anRet X.tab X.S Γ X.res with
      | some es => some (.seq p (.ret es))
      | none => none
    | none => none
  else none

theorem anFn_sound (hT : TabOk P X.tab) (hm : P.follows .mixedOrders = true) {c : Code} {h : Hint} {p : PI} (hf : P.funcs[X.S.f]? = some fn) (hbody : fn.body = some c) (hnt : fn.ntmps = X.nt) (hres : fn.results.toList = X.res)
    (ha : anFn X c h = some p) {ds outs : List T} {ρ1 : Env} (hb : BigC (CallOk P X.tab X.sigs) p (envOf ds) (.ret outs) ρ1) : Contract P X.tab X.S ds outs := by
  intro args w C he
  unfold anFn at ha
  split at ha
  case isFalse => cases ha
  rename_i hc
  simp only [Bool.and_eq_true, List.all_eq_true] at hc
  obtain ⟨hobs, hnt2⟩ := hc
  have hnt2 := Nat.le_of_ble_eq_true hnt2
  have hE : ∀ o ∈ X.E, o < X.no0 := by
    intro o ho
    obtain ⟨x, hx1, hx2⟩ := List.mem_map.1 ho
    rw [← hx2]; exact Nat.le_of_ble_eq_true (hobs x hx1).2
  refine calls_of_wp hf hbody ?_
  have hob : ∀ o g ob, (Gam.mk (inTm X.S.ins 0) (X.S.obs.map fun p => (p.1, (([] : Grd), p.2)))).obj o = some (g, ob) → g = [] ∧ look o X.S.obs = some ob := by
    intro o g ob ho
    have : look o (X.S.obs.map fun p => (p.1, (([] : Grd), p.2))) = (look o X.S.obs).map fun x => (([] : Grd), x) := look_map (fun x : Obj => (([] : Grd), x)) o X.S.obs
    unfold Gam.obj at ho
    rw [this] at ho
    cases hx : look o X.S.obs with
    | none => rw [hx] at ho; cases ho
    | some y => rw [hx] at ho; cases ho; exact ⟨rfl, rfl⟩
  have hrel : Rel X.tab (Gam.mk (inTm X.S.ins 0) (X.S.obs.map fun p => (p.1, (([] : Grd), p.2)))) (envOf ds) (args ++ Array.replicate (fn.ntmps - args.size) undef) w C ⟨kIn X.S.obs, fun x => x < X.S.nin⟩ (WrOf X.S.obs C) w := {
    tms := fun t g sv ht => by
      obtain ⟨_, x, h1, h2⟩ := look_inTm _ 0 t ht
      cases h2
      refine ⟨fun _ => ?_, fun hn => absurd trivial hn⟩
      obtain ⟨v, h3, h4⟩ := he.arg t x (by simpa using h1)
      have hlt : t < args.size := (Array.getElem?_eq_some_iff.1 h3).1
      have : (args ++ Array.replicate (fn.ntmps - args.size) undef).getD t undef = v := by
        rw [Array.getD_eq_getD_getElem?, Array.getElem?_append_left hlt, h3]; rfl
      rw [this]; exact h4
    obs := fun o g ob ho => by
      obtain ⟨rfl, h1⟩ := hob o g ob ho
      obtain ⟨q1, q2⟩ := he.ob o ob h1
      refine ⟨⟨ob, h1⟩, ?_, fun _ => q2.congrObj fun par pd i j et d hh => by rw [hh] at q1; cases q1⟩
      have hv := (hobs _ (look_mem h1)).1
      cases ob with
      | row dp et d => cases dp with
        | false => trivial
        | true =>
          unfold verChk at hv
          split at hv
          · rename_i heq; cases heq; exact ⟨_, rfl, Nat.le_of_ble_eq_true hv⟩
          · cases hv
          · rename_i heq; cases heq
          · rename_i heq; cases heq
      | view => simp [verChk] at hv
      | box => trivial
    dis := fun o o' g g' ob ob' ho ho' _ _ hne hown _ => he.dis o o' ob ob' (hob o g ob ho).2 (hob o' g' ob' ho').2 hne hown
    own := fun o g ob ho _ hown b x hf => .inl ⟨o, ob, (hob o g ob ho).2, hown, hf⟩
    frm := Frame.refl _ _ }
  have hat : At X C w (Gam.mk (inTm X.S.ins 0) (X.S.obs.map fun p => (p.1, (([] : Grd), p.2))), X.S.nin, X.no0) (envOf ds) ⟨args ++ Array.replicate (fn.ntmps - args.size) undef, []⟩ w := by
    refine ⟨_, ⟨⟨C, hrel, fun o _ _ => ⟨rfl, rfl, rfl⟩⟩, ?_, fun t ht => ?_, rfl⟩, ⟨fun o ho => ?_, fun x hx => hx⟩, Nat.le_refl _⟩
    · simp only [Array.size_append, Array.size_replicate]
      have := he.size; omega
    · cases hx : (Gam.mk (inTm X.S.ins 0) (X.S.obs.map fun p => (p.1, (([] : Grd), p.2)))).get t with
      | none => exact absurd hx ht
      | some y =>
        obtain ⟨_, x, h1, _⟩ := look_inTm _ 0 t hx
        have := List.getD_some_lt h1
        omega
    · obtain ⟨ob, ho⟩ := ho
      exact hE o (List.mem_map.2 ⟨_, look_mem ho, rfl⟩)
  split at ha
  · rename_i p' hcode
    cases ha
    refine wp_mono (anCode_sound (fn := fn) hT hm hres.symm hE c hcode hb hat) fun e a w' hq => ?_
    obtain ⟨rfl, h1, v, C', h2, h3⟩ := hq
    exact ⟨h1, v, h2, v, C', rfl, h3⟩
  · rename_i p' Γ nx no hcode
    split at ha
    case h_2 => cases ha
    rename_i es hes
    cases ha
    cases hb with
    | seq hb1 hb2 =>
      cases hb2
      refine wp_mono (anCode_sound (fn := fn) hT hm hres.symm hE c hcode hb1 hat) fun e a w' hq => ?_
      obtain ⟨rfl, pt, h1, kn, h2, h3, h4⟩ := hq
      cases h1
      rw [← hres] at hes
      obtain ⟨v, C', h5, h6⟩ := anRet_sound hT h2 hes
      exact ⟨h2.defers, v, h5, v, C', rfl, h6⟩
    | seqOut hb1 hne =>
      refine wp_mono (anCode_sound (fn := fn) hT hm hres.symm hE c hcode hb1 hat) fun e a w' hq => ?_
      obtain ⟨rfl, h1, v, C', h2, h3⟩ := hq
      exact ⟨h1, v, h2, v, C', rfl, h3⟩
  · cases ha
end
end Gp
