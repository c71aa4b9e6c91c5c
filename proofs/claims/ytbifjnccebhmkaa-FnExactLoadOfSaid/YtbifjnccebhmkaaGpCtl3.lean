/- Gp, part 29: a function's end, proved. -/
import Derived.Test.YtbifjnccebhmkaaGpCtl2
set_option linter.unusedVariables false
set_option linter.unusedSimpArgs false
namespace Gp
open Go

def resS (tab : Tab) (Γ : Gam) : ResultVar → Option S1
  | .tmp t => match Γ.get t with
    | some ([], .s x) => some x
    | _ => none
  | .cell a t => match Γ.get a, tab.get t with
    | some ([], .s (.one (.pb o j))), some ti => match Γ.obj o with
      | some ([], .box _ cells) => if Nat.beq ((cells.drop j).take ti.size).length ti.size then match svOf ti.agg ((cells.drop j).take ti.size) with
          | some (.s x) => some x
          | _ => none
        else none
      | _ => none
    | _, _ => none

def isRow (Γ : Gam) (o : Nat) : Bool := match Γ.obj o with
  | some ([], .row ..) => true
  | _ => false
/-- Rows of the entry that the exit does not tell of, but results may lie in. -/
def extraObs (Γ : Gam) (oobs : Obs) : Obs → Nat → Obs
  | [], _ => []
  | (o, .row _ et _) :: r, n => if (look o oobs).isNone && isRow Γ o then (o, .row false et (.var n)) :: extraObs Γ oobs r (n + 1) else extraObs Γ oobs r n
  | _ :: r, n => extraObs Γ oobs r n

def ownedAll (l : Obs) : Bool := l.all fun x => x.2.owned
def anRet (tab : Tab) (S : Sig) (Γ : Gam) (results : List ResultVar) : Option (List Exp) :=
  let ext := extraObs Γ S.oobs S.obs S.nout
  let obs := S.oobs ++ ext
  let E := S.obs.map (·.1)
  match artsOf Γ obs E, results.mapM (resS tab Γ) with
  | some (a', a), some xs => match mS1s tab Γ [] 0 obs (a' ++ S.outs) (a ++ xs) ⟨[], []⟩ with
    | some acc =>
      if allBound obs acc.th && chkOwn Γ obs acc.th && wholeAll Γ obs acc.th E && ownedAll S.oobs && S.outs.all (S1.bnd S.nout) && S.oobs.all (fun x => x.2.bnd S.nout) && acc.sg.all (fun p => Nat.blt p.1 (S.nout + ext.length)) then
        match sgArgs acc.sg (S.nout + ext.length) 0 with
        | some es => some (es.take S.nout)
        | none => none
      else none
    | none => none
  | _, _ => none

section
variable {tab : Tab} {Γ Γ' : Gam} {ρ ρ' : Env} {tm : Array Value} {w w' : World} {C C0 C1 Cx : Ctx} {kn kn' : Kn} {Wr : CS} {w0 : World} {P : Program} {G : Grd} {nx no nx' no' nb : Nat} {obs : Obs} {S : Sig} {sigs : List Sig}

theorem resS_sound (hT : TabOk P tab) (h : Rel tab Γ ρ tm w C kn Wr w0) {r : ResultVar} {x : S1} (hr : resS tab Γ r = some x) :
    ∃ v, ((match r with | .tmp t => pure (tm.getD t undef) | .cell a t => do loadVar t (← asAddr (tm.getD a undef)) : Sem Value)).run P w = .ok v w ∧ S1Rel tab C kn.o ρ x v := by
  cases r with
  | tmp t =>
    simp only [resS] at hr
    split at hr
    · rename_i y hy
      cases hr
      exact ⟨_, rfl, (h.tms t [] _ hy).1 trivial⟩
    · cases hr
  | cell a t =>
    simp only [resS] at hr
    split at hr
    case h_2 => cases hr
    rename_i o j ti ha hti
    split at hr
    case h_2 => cases hr
    rename_i rw' cells ho
    split at hr
    case isFalse => cases hr
    rename_i hc
    have hc := Nat.eq_of_beq_eq_true hc
    split at hr
    case h_2 => cases hr
    rename_i y hsv
    cases hr
    obtain ⟨⟨hk, b, base, hA, hv⟩, _⟩ := (h.tms a [] _ ha).1 trivial
    obtain ⟨b', base', hA', hF, hcell, _⟩ := (h.obs o [] _ ho).2.2 trivial
    rw [hA] at hA'; cases hA'
    obtain ⟨v, h1, h2⟩ := run_load_leaves (w := w) (P := P) (C := C) (ρ := ρ) (k := kn.o) hT hti (b := b) (o := base + j) hsv hc (fun q l hq => by
      have hq' := List.getD_some_lt hq
      rw [hc] at hq'
      rw [List.getElem?_take_of_lt hq', List.getElem?_drop] at hq
      obtain ⟨v, v1, v2⟩ := hcell (j + q) l hq
      exact ⟨v, by rw [← v1]; congr 1; omega, v2⟩)
    refine ⟨v, ?_, h2⟩
    rw [← h1]
    simp only [hv, asAddr, Instr.loadAt, Instr.sureAddr, Sem.run_bind, Sem.run_pure, Result.andThen_ok]

theorem extra_spec : ∀ (l : Obs) (n : Nat) {o : Nat} {ob : Obj}, look o (extraObs Γ obs l n) = some ob → look o obs = none ∧ ∃ et x, ob = .row false et (.var x)
  | [], n, o, ob, h => by simp [extraObs, look] at h
  | (k, .row dp et d) :: r, n, o, ob, h => by
    simp only [extraObs] at h
    split at h
    · rename_i hc
      simp only [Bool.and_eq_true, Option.isNone_iff_eq_none] at hc
      by_cases e : k = o
      · subst e
        rw [look_cons_self] at h; cases h
        exact ⟨hc.1, _, _, rfl⟩
      · rw [look_cons_ne e] at h; exact extra_spec r _ h
    · exact extra_spec r _ h
  | (k, .view ..) :: r, n, o, ob, h => by simp only [extraObs] at h; exact extra_spec r _ h
  | (k, .box ..) :: r, n, o, ob, h => by simp only [extraObs] at h; exact extra_spec r _ h
theorem extra_key : ∀ (l : Obs) (n : Nat) {o : Nat}, kIn (extraObs Γ obs l n) o → o ∈ l.map (·.1)
  | [], n, o, ⟨ob, h⟩ => by simp [extraObs, look] at h
  | (k, .row dp et d) :: r, n, o, ⟨ob, h⟩ => by
    simp only [extraObs] at h
    split at h
    · by_cases e : k = o
      · subst e; simp
      · rw [look_cons_ne e] at h
        exact List.mem_cons_of_mem _ (extra_key r _ ⟨ob, h⟩)
    · exact List.mem_cons_of_mem _ (extra_key r _ ⟨ob, h⟩)
  | (k, .view ..) :: r, n, o, ⟨ob, h⟩ => by simp only [extraObs] at h; exact List.mem_cons_of_mem _ (extra_key r _ ⟨ob, h⟩)
  | (k, .box ..) :: r, n, o, ⟨ob, h⟩ => by simp only [extraObs] at h; exact List.mem_cons_of_mem _ (extra_key r _ ⟨ob, h⟩)

theorem look_append {α : Type} (k : Nat) : ∀ (a b : List (Nat × α)), look k (a ++ b) = match look k a with | some x => some x | none => look k b
  | [], b => rfl
  | (q, x) :: a, b => by
    simp only [List.cons_append, look]
    split
    · rfl
    · exact look_append k a b

theorem ObRel.agree {n : Nat} (ha : Agree n ρ ρ') {o : Nat} {ob : Obj} {k : Nat → Prop} (hv : ob.isView = false) (hb : ob.bnd n = true) (h : ObRel tab C k ρ noGam w o ob) : ObRel tab C k ρ' noGam w o ob := by
  cases ob with
  | row dp et d =>
    obtain ⟨rows, r1, r2⟩ := h
    exact ⟨rows, by rw [den_agree ha d hb]; exact r1, r2⟩
  | view => cases hv
  | box rw' cells =>
    simp only [Obj.bnd, List.all_eq_true] at hb
    obtain ⟨b, base, r1, r2, r3, r4⟩ := h
    refine ⟨b, base, r1, r2, fun j l hj => ?_, r4⟩
    obtain ⟨v, v1, v2⟩ := r3 j l hj
    exact ⟨v, v1, Leaf.agree ha (hb l (List.mem_of_getElem? hj)) v2⟩

/-- A function's end: its results, and what it leaves, are as the signature says. -/
theorem anRet_sound {nt : Nat} {a : Act} {fn : Func} {es : List Exp} (hT : TabOk P tab) (hst : St tab nt (· ∈ S.obs.map (·.1)) C0 Γ ρ a w [] kn (WrOf S.obs C0) w0) (hr : anRet tab S Γ fn.results.toList = some es) :
    ∃ v C', (Go.results fn a.tmps).run P w = .ok v w ∧ OutRel tab S (envOf (es.map (den ρ))) C0 C' w0 w v := by
  obtain ⟨⟨C, h, hkeep⟩, s2, s3, s4⟩ := hst
  unfold anRet at hr
  simp only at hr
  split at hr
  case h_2 => cases hr
  rename_i a' a0 xs ha hxs
  split at hr
  case h_2 => cases hr
  rename_i acc hacc
  split at hr
  case isFalse => cases hr
  rename_i hchk
  simp only [Bool.and_eq_true] at hchk
  obtain ⟨⟨⟨⟨⟨⟨c2, c3⟩, c4⟩, c5⟩, c6⟩, c7⟩, c8⟩ := hchk
  split at hr
  case h_2 => cases hr
  rename_i es0 hes
  cases hr
  obtain ⟨e1, e2⟩ := sgArgs_spec hes
  obtain ⟨al, av⟩ := artsOf_sound h ha
  obtain ⟨xl, xv⟩ := mapM_get hxs
  simp only [List.all_eq_true] at c6 c7 c8
  have hsg : ∀ x e, look x acc.sg = some e → envOf (es0.map (den ρ)) x = den ρ e := by
    intro x e hx
    have b2 : x < S.nout + (extraObs Γ S.oobs S.obs S.nout).length := Nat.le_of_ble_eq_true (c8 _ (look_mem hx))
    obtain ⟨e', h1, h2⟩ := e2 x b2
    rw [Nat.zero_add, hx] at h1; cases h1
    simp only [envOf, List.getD_eq_getElem?_getD, List.getElem?_map, h2]; rfl
  -- the results' values
  have hval : ∀ r ∈ fn.results, ∃ v, ((match r with | .tmp t => pure (a.tmps.getD t undef) | .cell a2 t => do loadVar t (← asAddr (a.tmps.getD a2 undef)) : Sem Value)).run P w = .ok v w := by
    intro r hr
    obtain ⟨i, hi⟩ := List.mem_iff_getElem?.1 (Array.mem_toList_iff.2 hr)
    have : i < xs.length := by rw [xl]; exact List.getD_some_lt hi
    obtain ⟨x, hx⟩ : ∃ x, xs[i]? = some x := ⟨_, List.getElem?_eq_getElem this⟩
    obtain ⟨r', h1, h2⟩ := xv i x hx
    rw [hi] at h1; cases h1
    obtain ⟨v, h3, _⟩ := resS_sound hT h h2
    exact ⟨v, h3⟩
  let g : ResultVar → Value := fun r => open Classical in if hh : ∃ v, ((match r with | .tmp t => pure (a.tmps.getD t undef) | .cell a2 t => do loadVar t (← asAddr (a.tmps.getD a2 undef)) : Sem Value)).run P w = .ok v w then Classical.choose hh else undef
  have hg : ∀ r ∈ fn.results, ((match r with | .tmp t => pure (a.tmps.getD t undef) | .cell a2 t => do loadVar t (← asAddr (a.tmps.getD a2 undef)) : Sem Value)).run P w = .ok (g r) w := by
    intro r hr
    have hh := hval r hr
    simp only [g, dif_pos hh]
    exact Classical.choose_spec hh
  obtain ⟨C', st, hl1, hl2⟩ := mS1s_sound (nb := 0) (ρ' := envOf (es0.map (den ρ))) (C' := C) hT h (G := []) trivial (fun x hx => by omega)
    (fun j v => a'.length ≤ j → ∃ r, fn.results.toList[j - a'.length]? = some r ∧ v = g r) hacc (fun j x hj => by
      by_cases hlt : j < a0.length
      · rw [List.getElem?_append_left hlt] at hj
        obtain ⟨v, hv⟩ := av j x hj
        exact ⟨v, fun hle => by omega, hv⟩
      · rw [List.getElem?_append_right (by omega)] at hj
        obtain ⟨r, h1, h2⟩ := xv _ x hj
        obtain ⟨v, h3, h4⟩ := resS_sound hT h h2
        have hm : r ∈ fn.results := Array.mem_toList_iff.1 (List.mem_of_getElem? h1)
        have := hg r hm
        rw [h3] at this
        cases this
        exact ⟨g r, fun _ => ⟨r, by rw [al]; exact h1, rfl⟩, h4⟩) Inv.empty hsg
  obtain ⟨hk, hbd, hob, hds, hps⟩ := coe_objs h st.inv c2 c3
  have hoo : ∀ o ob, look o S.oobs = some ob → look o (S.oobs ++ extraObs Γ S.oobs S.obs S.nout) = some ob := by
    intro o ob ho; rw [look_append, ho]
  have hag : Agree S.nout (envOf (es0.map (den ρ))) (envOf ((es0.take S.nout).map (den ρ))) := by
    intro x hx
    simp only [envOf, List.getD_eq_getElem?_getD, List.getElem?_map, List.getElem?_take_of_lt hx]
  -- where things lie at the exit
  let C2 : Ctx := open Classical in
    { A := fun o => if kIn S.obs o ∧ ¬ kIn (S.oobs ++ extraObs Γ S.oobs S.obs S.nout) o then C0.A o else C'.A o
      N := fun o => if kIn S.obs o ∧ ¬ kIn (S.oobs ++ extraObs Γ S.oobs S.obs S.nout) o then C0.N o else C'.N o
      K := fun o => if kIn S.obs o ∧ ¬ kIn (S.oobs ++ extraObs Γ S.oobs S.obs S.nout) o then C0.K o else C'.K o
      F := C'.F }
  have hC2 : ∀ o, kIn (S.oobs ++ extraObs Γ S.oobs S.obs S.nout) o → C2.A o = C'.A o ∧ C2.N o = C'.N o ∧ C2.K o = C'.K o := by
    intro o ho
    have : ¬ (kIn S.obs o ∧ ¬ kIn (S.oobs ++ extraObs Γ S.oobs S.obs S.nout) o) := fun hh => hh.2 ho
    simp only [C2, if_neg this, and_self]
  have hkk : ∀ o, kIn (S.oobs ++ extraObs Γ S.oobs S.obs S.nout) o → kIn S.obs o ∨ kIn S.oobs o := by
    rintro o ⟨ob, ho⟩
    rw [look_append] at ho
    cases hx : look o S.oobs with
    | some y => exact .inr ⟨y, hx⟩
    | none =>
      rw [hx] at ho
      obtain ⟨x, hx1, hx2⟩ := List.mem_map.1 (extra_key _ _ ⟨ob, ho⟩)
      left
      -- a key of the list is looked up in it
      have : ∀ (l : Obs) (k : Nat), k ∈ l.map (·.1) → kIn l k := by
        intro l
        induction l with
        | nil => intro k hk; simp at hk
        | cons p l ih =>
          intro k hk
          by_cases e : p.1 = k
          · obtain ⟨p1, p2⟩ := p
            simp only at e; subst e
            exact ⟨p2, look_cons_self⟩
          · obtain ⟨p1, p2⟩ := p
            simp only [List.map_cons, List.mem_cons] at hk
            rcases hk with hk | hk
            · exact absurd hk.symm e
            · obtain ⟨y, hy⟩ := ih k hk
              exact ⟨y, by rw [look_cons_ne e]; exact hy⟩
      exact this _ _ (extra_key _ _ ⟨ob, ho⟩)
  have hmono : ∀ {x : S1} {v : Value}, x ∈ S.outs → S1Rel tab C' (kOf acc) (envOf (es0.map (den ρ))) x v → S1Rel tab C2 (fun o => kIn S.obs o ∨ kIn S.oobs o) (envOf ((es0.take S.nout).map (den ρ))) x v := by
    intro x v hx hh
    exact (S1.agree hag (c6 x hx) hh).mono (fun o ho => hkk o ((hk o).2 ho)) fun o ho => hC2 o ((hk o).2 ho)
  have hmap : (fn.results.mapM (fun r => (match r with | .tmp t => pure (a.tmps.getD t undef) | .cell a2 t => do loadVar t (← asAddr (a.tmps.getD a2 undef)) : Sem Value))).run P w = .ok (fn.results.map g) w := run_mapM_arr _ hg
  have hrun : (Go.results fn a.tmps).run P w = .ok (if h : (fn.results.map g).size = 1 then (fn.results.map g)[0] else .tuple (fn.results.map g)) w := by
    unfold Go.results
    rw [Sem.run_bind]
    have : (fn.results.mapM (fun x => match x with | .tmp t => pure (a.tmps.getD t undef) | .cell a2 t => do loadVar t (← asAddr (a.tmps.getD a2 undef)) : ResultVar → Sem Value)).run P w = .ok (fn.results.map g) w := hmap
    erw [this]
    rfl
  have hln : S.outs.length = fn.results.size := by
    have : (a' ++ S.outs).length = (a0 ++ xs).length := hl1
    simp only [List.length_append] at this
    have h2 : fn.results.toList.length = fn.results.size := rfl
    omega
  have hout : ∀ (j : Nat) x, S.outs[j]? = some x → ∃ u, (fn.results.map g)[j]? = some u ∧ S1Rel tab C2 (fun o => kIn S.obs o ∨ kIn S.oobs o) (envOf ((es0.take S.nout).map (den ρ))) x u := by
    intro j x hj
    obtain ⟨v, v1, v2⟩ := hl2 (a'.length + j) x (by rw [List.getElem?_append_right (by omega)]; rw [show a'.length + j - a'.length = j by omega]; exact hj)
    obtain ⟨r, y1, y2⟩ := v1 (by omega)
    rw [show a'.length + j - a'.length = j by omega] at y1
    subst y2
    refine ⟨g r, ?_, hmono (List.mem_of_getElem? hj) v2⟩
    have : fn.results[j]? = some r := by simpa using y1
    rw [Array.getElem?_map, this]; rfl
  refine ⟨_, C2, hrun, ?_, ?_, ?_, ?_, ?_, ?_⟩
  · unfold ResRel
    split
    · rename_i x hx
      rw [hx] at hln hout
      have h1 : (fn.results.map g).size = 1 := by simpa using hln.symm
      rw [dif_pos h1]
      obtain ⟨u, h2, h3⟩ := hout 0 x rfl
      have : (fn.results.map g)[0] = u := by
        have := Array.getElem?_eq_getElem (xs := fn.results.map g) (i := 0) (by omega)
        rw [h2] at this; cases this; rfl
      rw [this]; exact h3
    · rename_i hne
      have h1 : ¬ (fn.results.map g).size = 1 := by
        intro h1
        rw [Array.size_map, ← hln] at h1
        match hm : S.outs, h1 with
        | [x], _ => exact hne x hm
      rw [dif_neg h1]
      exact ⟨_, rfl, by simp [hln], hout⟩
  · intro o ob ho
    obtain ⟨q1, q2⟩ := hob o ob (hoo o ob ho)
    refine ⟨q1, ?_⟩
    have hb := c7 _ (look_mem ho)
    have h1 := ObRel.agree hag q1 hb q2
    exact h1.mono (fun o ho => hkk o ho) ⟨ob, hoo o ob ho⟩ (fun o ho => hC2 o ho) rfl fun par pd i j et d he => by rw [he] at q1; cases q1
  · intro o1 o2 ob1 ob2 ho1 ho2 hne hown
    exact hds o1 o2 ob1 ob2 (hoo o1 ob1 ho1) (hoo o2 ob2 ho2) hne hown
  · intro o ob ho b x hf
    have hown : ob.owned = true := by
      simp only [ownedAll, List.all_eq_true] at c5
      exact c5 _ (look_mem ho)
    obtain ⟨q, gq, obq, _, q2, q3, q4, q5⟩ := hps o ob (hoo o ob ho) hown b x hf
    exact h.own q gq obq q2 q3 q4 b x q5
  · intro o ho
    by_cases hx : kIn (S.oobs ++ extraObs Γ S.oobs S.obs S.nout) o
    · obtain ⟨y1, y2, y3⟩ := hC2 o hx
      obtain ⟨ob, hoo2⟩ := ho
      have hE : o ∈ S.obs.map (·.1) := List.mem_map.2 ⟨(o, ob), look_mem hoo2, rfl⟩
      obtain ⟨k1, k2, k3, k4⟩ := wholeAll_spec st.inv c4 h o hE hx
      obtain ⟨z1, z2, z3⟩ := hkeep o hE k1
      exact ⟨y1.trans (k2.trans z1), y2.trans (k3.trans z2), y3.trans (k4.trans z3)⟩
    · have : kIn S.obs o ∧ ¬ kIn (S.oobs ++ extraObs Γ S.oobs S.obs S.nout) o := ⟨ho, hx⟩
      simp only [C2, if_pos this, and_self]
  · exact ⟨h.frm.size, h.frm.blk, h.frm.cel, h.frm.os, h.frm.tape, h.frm.output⟩
end
end Gp
