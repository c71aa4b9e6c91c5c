/- Gp, part 28: where ways meet; a function's end. -/
import Derived.Test.YtbifjnccebhmkaaGpCtl1
set_option linter.unusedVariables false
set_option linter.unusedSimpArgs false
namespace Gp
open Go

structure Join where
  Γ : Gam
  nb : Nat
  cnt : Nat
  no : Nat
  deriving Repr, Inhabited
def obsOf (Γ : Gam) : Obs := Γ.ob.map fun p => (p.1, p.2.2)

def pairsOf (Γ : Gam) : List (Nat × (Grd × SV)) → Option (List S1 × List S1)
  | [] => some ([], [])
  | (t, ([], .s x')) :: r => match Γ.get t, pairsOf Γ r with
    | some ([], .s x), some (a, b) => some (x' :: a, x :: b)
    | _, _ => none
  | _ => none
/-- An object that was there at the entry is taken for itself. -/
def artsOf (Γ : Gam) (obs : Obs) : List Nat → Option (List S1 × List S1)
  | [] => some ([], [])
  | o :: r => match look o obs with
    | none => artsOf Γ obs r
    | some ob => match ob, Γ.obj o, artsOf Γ obs r with
      | .row _ et (.var x), some ([], .row _ et2 d), some (a, b) => some (.one (.sl o et (.int 0) (.un .len (.var x))) :: a, .one (.sl o et2 (.int 0) (.un .len d)) :: b)
      | .box _ _, some ([], .box _ _), some (a, b) => some (.one (.pb o 0) :: a, .one (.pb o 0) :: b)
      | _, _, _ => none
def wholeAll (Γ : Gam) (obs : Obs) (th : List (Nat × Ref)) (E : List Nat) : Bool :=
  E.all fun o => (look o obs).isNone || match look o th with
    | some (.sl q off len) => Nat.beq q o && match rowOf Γ [] o with
      | some (_, _, d, _) => isWhole d off len
      | none => false
    | some (.bx q) => Nat.beq q o
    | _ => false
def verChk (n : Nat) : Obj → Bool
  | .row _ _ (.var x) => Nat.blt x n
  | .row _ _ _ => false
  | .box _ _ => true
  | .view .. => false

def coe (tab : Tab) (E : List Nat) (Γ : Gam) (J : Join) : Option (List Exp) :=
  let obs := obsOf J.Γ
  match artsOf Γ obs E, pairsOf Γ J.Γ.tm with
  | some (a', a), some (p', p) => match mS1s tab Γ [] J.nb obs (a' ++ p') (a ++ p) ⟨[], []⟩ with
    | some acc =>
      if J.Γ.ob.all (fun x => x.2.1.isEmpty && verChk (J.nb + J.cnt) x.2.2 && Nat.blt x.1 J.no) && allBound obs acc.th && chkOwn Γ obs acc.th && wholeAll Γ obs acc.th E && acc.sg.all (fun p => Nat.ble J.nb p.1 && Nat.blt p.1 (J.nb + J.cnt)) then
        sgArgs acc.sg J.cnt J.nb
      else none
    | none => none
  | _, _ => none

section
variable {tab : Tab} {Γ Γ' : Gam} {ρ ρ' : Env} {tm : Array Value} {w w' : World} {C C0 C1 Cx : Ctx} {kn kn' : Kn} {Wr : CS} {w0 : World} {P : Program} {G : Grd} {nx no nx' no' nb : Nat} {obs : Obs} {S : Sig} {sigs : List Sig}

theorem pairsOf_spec {X : Nat × (Grd × SV) → Prop} : ∀ {l : List (Nat × (Grd × SV))} {a b : List S1}, pairsOf Γ l = some (a, b) → a.length = l.length ∧ b.length = l.length ∧
    ∀ (j : Nat) t y, l[j]? = some (t, y) → ∃ x' x, y = ([], .s x') ∧ a[j]? = some x' ∧ b[j]? = some x ∧ Γ.get t = some ([], .s x)
  | [], a, b, h => by cases h; exact ⟨rfl, rfl, fun j t y hj => by simp at hj⟩
  | (t, (g, sv)) :: r, a, b, h => by
    unfold pairsOf at h
    split at h
    · rename_i h0; cases h0
    · rename_i t' x' r' heq
      cases heq
      split at h
      · rename_i x a' b' h1 h2
        cases h
        obtain ⟨l1, l2, l3⟩ := pairsOf_spec (X := X) h2
        refine ⟨by simp [l1], by simp [l2], fun j t2 y hj => ?_⟩
        cases j with
        | zero => simp at hj; obtain ⟨rfl, rfl⟩ := hj; exact ⟨x', x, rfl, rfl, rfl, h1⟩
        | succ j => simpa using l3 j t2 y (by simpa using hj)
      · cases h
    · cases h

theorem artsOf_sound (h : Rel tab Γ ρ tm w C kn Wr w0) : ∀ {l : List Nat} {a b : List S1}, artsOf Γ obs l = some (a, b) → a.length = b.length ∧ ∀ (j : Nat) x, b[j]? = some x → ∃ v, S1Rel tab C kn.o ρ x v
  | [], a, b, hh => by cases hh; exact ⟨rfl, fun j x hj => by simp at hj⟩
  | o :: r, a, b, hh => by
    simp only [artsOf] at hh
    split at hh
    · exact artsOf_sound h hh
    · rename_i ob hob
      split at hh
      · rename_i dp et x g et2 d a' b' h1 h2
        cases hh
        obtain ⟨l1, l2⟩ := artsOf_sound h h2
        refine ⟨by simp [l1], fun j y hj => ?_⟩
        cases j with
        | zero =>
          simp at hj; subst hj
          obtain ⟨k1, k2, k3⟩ := h.obs o [] _ h1
          obtain ⟨rows, r1, r2⟩ := k3 trivial
          obtain ⟨x1, x2, x3⟩ := r2.header
          refine ⟨.slice (C.A o) (C.N o) (C.K o), ⟨k1, 0, C.N o, _, _, rfl, ?_, rfl, by omega, x2, by omega, ?_⟩, fun cs => by simp⟩
          · simp only [den, U.den, r1, T.len, x1]
          · rcases x3 with h0 | ⟨bb, off, h0⟩
            · exact .inl h0
            · exact .inr ⟨bb, off, h0, by rw [h0]; simp⟩
        | succ j => exact l2 j y (by simpa using hj)
      · rename_i rw' cells g rwc cells2 a' b' h1 h2
        cases hh
        obtain ⟨l1, l2⟩ := artsOf_sound h h2
        refine ⟨by simp [l1], fun j y hj => ?_⟩
        cases j with
        | zero =>
          simp at hj; subst hj
          obtain ⟨k1, k2, k3⟩ := h.obs o [] _ h1
          obtain ⟨bb, base, q1, _⟩ := k3 trivial
          exact ⟨.pointer (some ⟨bb, base, none⟩), ⟨k1, bb, base, q1, rfl⟩, fun cs => by simp⟩
        | succ j => exact l2 j y (by simpa using hj)
      · cases hh

/-- What was there at the entry lies where it lay. -/
theorem wholeAll_spec {a : Acc} {C' : Ctx} {E : List Nat} (hinv : Inv tab Γ [] ρ ρ' w C obs a C') (hw : wholeAll Γ obs a.th E = true) (h : Rel tab Γ ρ tm w C kn Wr w0) :
    ∀ o, o ∈ E → kIn obs o → kn.o o ∧ C'.A o = C.A o ∧ C'.N o = C.N o ∧ C'.K o = C.K o := by
  intro o hE ⟨ob, hob⟩
  simp only [wholeAll, List.all_eq_true] at hw
  have := hw o hE
  rw [hob] at this
  simp only [Option.isNone_some, Bool.false_or] at this
  split at this
  · rename_i q off len ht
    simp only [Bool.and_eq_true] at this
    obtain ⟨h1, h2⟩ := this
    have h1 := Nat.eq_of_beq_eq_true h1
    subst h1
    obtain ⟨ob', hb1, hB⟩ := hinv _ _ ht
    obtain ⟨dp, et', x', ti, rows, m, n, c, root, gr, obr, d', z1, z2, z3, z4, z5, z6, z7, z8, z9, z10, z11, z12, z13, z14, z15, z16, z17, z18, ⟨dp2, vw, z19⟩, z20⟩ := hB
    rw [z19] at h2
    refine ⟨?_, z20 h2⟩
    unfold rowOf at z19
    split at z19
    · rename_i ho; exact (h.obs _ _ _ ho).1
    · rename_i ho; exact (h.obs _ _ _ ho).1
    · cases z19
  · rename_i q ht
    have h1 := Nat.eq_of_beq_eq_true this
    subst h1
    obtain ⟨ob', hb1, hB⟩ := hinv _ _ ht
    obtain ⟨rw', rwc, cells', cells, g, z1, z2, z3, z4, z5, z6, z7⟩ := hB
    exact ⟨(h.obs _ _ _ z2).1, z5⟩
  · cases this

theorem look_obsOf (Γ : Gam) (o : Nat) : look o (obsOf Γ) = (Γ.obj o).map (·.2) := look_map (fun p : Grd × Obj => p.2) o Γ.ob

theorem coe_sound {E : List Nat} {nt : Nat} {a : Act} {ds : List Deferred} {J : Join} {es : List Exp} (hT : TabOk P tab) (hst : St tab nt (· ∈ E) C0 Γ ρ a w ds kn Wr w0) (hc : coe tab E Γ J = some es) :
    es.length = J.cnt ∧ ∃ kn', St tab nt (· ∈ E) C0 J.Γ (updL ρ J.nb (es.map (den ρ))) a w ds kn' Wr w0 ∧ kn'.below (J.nb + J.cnt) J.no := by
  obtain ⟨⟨C, h, hkeep⟩, s2, s3, s4⟩ := hst
  unfold coe at hc
  simp only at hc
  split at hc
  case h_2 => cases hc
  rename_i a' a0 p' p ha hp
  split at hc
  case h_2 => cases hc
  rename_i acc hacc
  split at hc
  case isFalse => cases hc
  rename_i hchk
  simp only [Bool.and_eq_true, List.all_eq_true] at hchk
  obtain ⟨⟨⟨⟨c1, c2⟩, c3⟩, c4⟩, c5⟩ := hchk
  obtain ⟨e1, e2⟩ := sgArgs_spec hc
  refine ⟨e1, ?_⟩
  obtain ⟨al, av⟩ := artsOf_sound h ha
  obtain ⟨pl1, pl2, pv⟩ := pairsOf_spec (X := fun _ => True) hp
  have hsg : ∀ x e, look x acc.sg = some e → updL ρ J.nb (es.map (den ρ)) x = den ρ e := by
    intro x e hx
    obtain ⟨b1, b2⟩ := c5 _ (look_mem hx)
    have b1 : J.nb ≤ x := Nat.le_of_ble_eq_true b1
    have b2 : x < J.nb + J.cnt := Nat.le_of_ble_eq_true b2
    obtain ⟨e', h1, h2⟩ := e2 (x - J.nb) (by omega)
    rw [show J.nb + (x - J.nb) = x by omega, hx] at h1; cases h1
    have := updL_get (es.map (den ρ)) J.nb ρ (x - J.nb) (den ρ e) (by rw [List.getElem?_map, h2]; rfl)
    rwa [show J.nb + (x - J.nb) = x by omega] at this
  have hag : ∀ x, x < J.nb → updL ρ J.nb (es.map (den ρ)) x = ρ x := fun x hx => agree_updL _ _ _ (Nat.le_refl _) x hx
  obtain ⟨C', st, hl1, hl2⟩ := mS1s_sound (nb := J.nb) (ρ' := updL ρ J.nb (es.map (den ρ))) (C' := C) hT h (G := []) trivial hag
    (fun j v => a'.length ≤ j → ∃ t y, J.Γ.tm[j - a'.length]? = some (t, y) ∧ v = a.tmps.getD t undef) hacc (fun j x hj => by
      by_cases hlt : j < a0.length
      · rw [List.getElem?_append_left hlt] at hj
        obtain ⟨v, hv⟩ := av j x hj
        exact ⟨v, fun hle => by omega, hv⟩
      · rw [List.getElem?_append_right (by omega)] at hj
        have hlt2 : j - a0.length < J.Γ.tm.length := by
          have := List.getD_some_lt hj; omega
        obtain ⟨⟨t, y⟩, hty⟩ : ∃ z, J.Γ.tm[j - a0.length]? = some z := ⟨_, List.getElem?_eq_getElem hlt2⟩
        obtain ⟨x', x2, y1, y2, y3, y4⟩ := pv _ t y hty
        rw [hj] at y3; cases y3
        refine ⟨a.tmps.getD t undef, fun _ => ⟨t, y, by rw [al]; exact hty, rfl⟩, ?_⟩
        exact (h.tms t [] _ y4).1 trivial) Inv.empty hsg
  obtain ⟨hk, hbd, hob, hds, hps⟩ := coe_objs h st.inv c2 c3
  have hlo : ∀ o g ob, J.Γ.obj o = some (g, ob) → g = [] ∧ look o (obsOf J.Γ) = some ob ∧ verChk (J.nb + J.cnt) ob = true ∧ o < J.no := by
    intro o g ob ho
    obtain ⟨⟨b1, b2⟩, b3⟩ := c1 _ (look_mem ho)
    refine ⟨by simpa using b1, by rw [look_obsOf, ho]; rfl, b2, Nat.le_of_ble_eq_true b3⟩
  have hlo' : ∀ o ob, look o (obsOf J.Γ) = some ob → ∃ g, J.Γ.obj o = some (g, ob) := by
    intro o ob ho
    rw [look_obsOf] at ho
    cases hx : J.Γ.obj o with
    | none => rw [hx] at ho; cases ho
    | some y => rw [hx] at ho; cases ho; exact ⟨y.1, rfl⟩
  have hrel : Rel tab J.Γ (updL ρ J.nb (es.map (den ρ))) a.tmps w C' ⟨kIn (obsOf J.Γ), fun x => x < J.nb + J.cnt⟩ Wr w0 := {
    tms := fun t g sv ht => by
      obtain ⟨j, hj⟩ := List.mem_iff_getElem?.1 (look_mem ht)
      obtain ⟨x', x, y1, y2, y3, y4⟩ := pv j t (g, sv) hj
      cases y1
      refine ⟨fun _ => ?_, fun hn => absurd trivial hn⟩
      obtain ⟨v, v1, v2⟩ := hl2 (a'.length + j) x' (by rw [List.getElem?_append_right (by omega)]; rw [show a'.length + j - a'.length = j by omega]; exact y2)
      obtain ⟨t2, y5, y6, y7⟩ := v1 (by omega)
      rw [show a'.length + j - a'.length = j by omega, hj] at y6
      cases y6
      subst y7
      exact S1Rel.mono v2 (fun o ho => (hk o).2 ho) fun _ _ => ⟨rfl, rfl, rfl⟩
    obs := fun o g ob ho => by
      obtain ⟨b1, b2, b3, b4⟩ := hlo o g ob ho
      refine ⟨⟨ob, b2⟩, ?_, fun _ => ?_⟩
      · cases ob with
        | row dp et d => cases dp with
          | false => trivial
          | true =>
            unfold verChk at b3
            split at b3
            · rename_i heq; cases heq; exact ⟨_, rfl, Nat.le_of_ble_eq_true b3⟩
            · cases b3
            · rename_i heq; cases heq
            · rename_i heq; cases heq
        | view => simp [verChk] at b3
        | box => trivial
      · obtain ⟨q1, q2⟩ := hob o ob b2
        exact q2.congrObj fun par pd i j et d he => by rw [he] at q1; cases q1
    dis := fun o o' g g' ob ob' ho ho' _ _ hne hown _ => hds o o' ob ob' (hlo o g ob ho).2.1 (hlo o' g' ob' ho').2.1 hne hown
    own := fun o g ob ho _ hown b x hf => by
      obtain ⟨q, gq, obq, _, q2, q3, q4, q5⟩ := hps o ob (hlo o g ob ho).2.1 hown b x hf
      exact h.own q gq obq q2 q3 q4 b x q5
    frm := h.frm }
  refine ⟨_, ⟨⟨C', hrel, fun o hE hko => ?_⟩, s2, fun t ht => ?_, s4⟩, fun o ho => ?_, fun x hx => hx⟩
  · obtain ⟨k1, k2, k3, k4⟩ := wholeAll_spec st.inv c4 h o hE hko
    obtain ⟨z1, z2, z3⟩ := hkeep o hE k1
    exact ⟨k2.trans z1, k3.trans z2, k4.trans z3⟩
  · cases hx : J.Γ.get t with
    | none => exact absurd hx ht
    | some y =>
      obtain ⟨j, hj⟩ := List.mem_iff_getElem?.1 (look_mem hx)
      obtain ⟨x', x, y1, y2, y3, y4⟩ := pv j t y hj
      exact s3 t (by rw [y4]; simp)
  · obtain ⟨ob, ho⟩ := ho
    obtain ⟨g, hg⟩ := hlo' o ob ho
    exact (hlo o g ob hg).2.2.2
end
end Gp
