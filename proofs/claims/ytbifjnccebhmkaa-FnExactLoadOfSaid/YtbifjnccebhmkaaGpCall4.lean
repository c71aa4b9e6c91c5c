/- Gp, part 22: a call, proved. -/
import Derived.Test.YtbifjnccebhmkaaGpCall3
set_option linter.unusedVariables false
set_option linter.unusedSimpArgs false
namespace Gp
open Go
section
variable {tab : Tab} {Γ : Gam} {ρ ρ' : Env} {tm : Array Value} {w w' : World} {C C1 Cx : Ctx} {kn kn' : Kn} {Wr : CS} {w0 : World} {P : Program} {I : Nat → List T → List T → Prop} {G : Grd} {nx no nb : Nat} {obs : Obs} {S : Sig}

theorem obj_dels_none : ∀ (ms : List Nat) (Γ : Gam) {o : Nat}, o ∈ ms → (Γ.appOb (dels ms)).obj o = none := by
  intro ms Γ o ho
  cases hx : (Γ.appOb (dels ms)).obj o with
  | none => rfl
  | some x => exact absurd ho (obj_dels ms Γ hx).1
theorem obj_dels_none' : ∀ (ms : List Nat) (Γ : Gam) {o : Nat}, Γ.obj o = none → (Γ.appOb (dels ms)).obj o = none := by
  intro ms Γ o ho
  cases hx : (Γ.appOb (dels ms)).obj o with
  | none => rfl
  | some x => rw [(obj_dels ms Γ hx).2] at ho; cases ho
theorem get_appOb : ∀ (l : List (Nat × Option (Grd × Obj))) (Γ : Gam) (t : Nat), (Γ.appOb l).get t = Γ.get t
  | [], _, _ => rfl
  | (o, some x) :: r, Γ, t => by simp only [Gam.appOb]; rw [get_appOb r]; rfl
  | (o, none) :: r, Γ, t => by simp only [Gam.appOb]; rw [get_appOb r]; rfl

theorem mem_passed {o' q : Nat} {ob : Obj} {th : List (Nat × Ref)} (ho : look o' obs = some ob) (how : ob.owned = true) (ht : (∃ off len, look o' th = some (.sl q off len)) ∨ look o' th = some (.bx q)) : q ∈ passedOf obs th := by
  simp only [passedOf, List.mem_filterMap]
  refine ⟨(o', ob), look_mem ho, ?_⟩
  simp only [how, if_true]
  rcases ht with ⟨off, len, ht⟩ | ht <;> rw [ht]

theorem BackIs.owned {th : List (Nat × Ref)} {z q o' : Nat} {g : Grd} {ob x : Obj} (h : BackIs S G th no z q o' ob g x) : ob.owned = true ∧ x.owned = true ∧ x.isView = false ∧ ob.isView = false := by
  cases h <;> exact ⟨rfl, rfl, rfl, rfl⟩

theorem anCall_sound (hT : TabOk P tab) (h : Rel tab Γ ρ tm w C kn Wr w0) (hG : holdsG ρ G) {i : Nat} {xs : List S1} {r : Res} (hr : anCall tab S i Γ G nx no xs = some r)
    (hI : ∀ ds outs, I i ds outs → Contract P tab S ds outs) (hS : HoldsS I ρ r.sis) (hfo : ∀ o, no ≤ o → o < r.no → ¬ kn.o o) (hfx : ∀ x, nx ≤ x → x < r.nx → ¬ kn.v x)
    {args : Array Value} (hsz : args.size = xs.length) (harg : ∀ (j : Nat) x, xs[j]? = some x → ∃ v, args[j]? = some v ∧ S1Rel tab C kn.o ρ x v) :
    Calls P S.f args w fun e w' => ∃ v, e = .returned v ∧ Post tab Γ ρ tm C kn Wr w0 nx no r v w' := by
  unfold anCall at hr
  split at hr
  case h_2 => cases hr
  rename_i a ha
  split at hr
  case isFalse => cases hr
  rename_i hc
  simp only [Bool.and_eq_true, Bool.or_eq_true, List.isEmpty_iff] at hc
  obtain ⟨⟨⟨⟨⟨hab, hco⟩, hkw⟩, hnd1⟩, hnd2⟩, hsg⟩ := hc
  split at hr
  case h_2 => cases hr
  rename_i es L ys hes hL hys
  cases hr
  -- the data that go in
  obtain ⟨outs, hIo, hlen, hvar⟩ := hS (G, .call i es nx S.nout) (by simp) hG
  have hcon := hI _ _ hIo
  obtain ⟨e1, e2⟩ := sgArgs_spec hes
  have hsg' : ∀ x e, look x a.sg = some e → envOf (es.map (den ρ)) x = den ρ e := by
    intro x e hx
    simp only [List.all_eq_true] at hsg
    have hlt : x < S.nin := Nat.le_of_ble_eq_true (hsg _ (look_mem hx))
    obtain ⟨e', h1, h2⟩ := e2 x hlt
    rw [Nat.zero_add, hx] at h1; cases h1
    simp only [envOf, List.getD_eq_getElem?_getD, List.getElem?_map, h2]; rfl
  obtain ⟨C1, st, hl1, hl2⟩ := mS1s_sound (nb := 0) (ρ' := envOf (es.map (den ρ))) (C' := C) hT h hG (fun x hx => by omega) (fun j v => args[j]? = some v) ha harg Inv.empty hsg'
  obtain ⟨hk, hbd, hob, hds, hps⟩ := coe_objs h st.inv hab hco
  have hent : EntryRel tab S (envOf (es.map (den ρ))) args w C1 := by
    refine ⟨by rw [hsz, hl1], fun j x hj => ?_, hob, hds⟩
    obtain ⟨v, h1, h2⟩ := hl2 j x hj
    exact ⟨v, h1, h2.mono (fun o ho => (hk o).2 ho) fun _ _ => ⟨rfl, rfl, rfl⟩⟩
  refine Calls.mono (hcon args w C1 hent) ?_
  rintro e w' ⟨v, Cx, rfl, out⟩
  refine ⟨v, rfl, ?_⟩
  -- what is passed
  have hpo := passed_owned hnd2 h st.inv hab hco
  have hWr : ∀ b x, WrOf S.obs C1 b x → ∃ q ∈ passedOf S.obs a.th, C.F q b x := by
    rintro b x ⟨o, ob, h1, h2, h3⟩
    obtain ⟨q, g, obq, q1, q2, q3, q4, q5⟩ := hps o ob h1 h2 b x h3
    exact ⟨q, q1, q5⟩
  have hdel := h.turnedDel hpo out.trn hWr
  -- the back list
  have hLs : ∀ q o' g x, look q L = some (o', g, x) → ∃ ob, look o' S.oobs = some ob ∧ BackIs S G a.th no nx q o' ob g x := by
    intro q o' g x hq
    obtain ⟨ob, h1, h2⟩ := backObs_spec hL q o' g x (look_mem hq)
    exact ⟨ob, keysNodup_look hnd1 h1, h2⟩
  have hoin : ∀ o' ob x, look o' S.obs = some x → look o' S.oobs = some ob → ob.owned = true → True := fun _ _ _ _ _ _ => trivial
  -- an entry object that is bound, and its caller's object
  have hslb : ∀ o' q off len, look o' a.th = some (.sl q off len) → kn.o q := by
    intro o' q off len ht
    obtain ⟨ob, h1, hB⟩ := st.inv o' _ ht
    obtain ⟨dp, et, x, ti, rows, m, n, c, root, gr, obr, d, z1, z2, z3, z4, z5, z6, z7, z8, z9, z10, z11, z12, z13, z14, z15, z16, z17, z18, ⟨dp2, vw, z19⟩, z20⟩ := hB
    unfold rowOf at z19
    split at z19
    · rename_i ho; exact (h.obs q _ _ ho).1
    · rename_i ho; exact (h.obs q _ _ ho).1
    · cases z19
  have hbxb : ∀ o' q, look o' a.th = some (.bx q) → kn.o q ∧ C1.A o' = C.A q := by
    intro o' q ht
    obtain ⟨ob, h1, hB⟩ := st.inv o' _ ht
    obtain ⟨rw', rwc, cells', cells, g, z1, z2, z3, z4, z5, z6, z7⟩ := hB
    exact ⟨(h.obs q _ _ z2).1, z5.1⟩
  have hthin : ∀ o' rf, look o' a.th = some rf → kIn S.obs o' := fun o' rf ht => (hk o').2 ⟨rf, ht⟩
  let kn2 : Kn := ⟨fun o => kn.o o ∨ (no ≤ o ∧ o < no + newCount S.obs S.oobs), fun x => kn.v x ∨ (nx ≤ x ∧ x < nx + S.nout)⟩
  let Cc := backCtx kn C Cx L
  have hold : ∀ o, kn.o o → Cc.A o = C.A o ∧ Cc.N o = C.N o ∧ Cc.K o = C.K o := by
    intro o ho
    simp only [Cc, backCtx, if_pos ho, and_self]
  have hFL : ∀ q o' g x, look q L = some (o', g, x) → Cc.F q = Cx.F o' := by
    intro q o' g x hq
    simp only [Cc, backCtx, hq]
  have hFn : ∀ q, look q L = none → Cc.F q = C.F q := by
    intro q hq
    simp only [Cc, backCtx, hq]
  have hnewk : ∀ o' q, newAt S.obs S.oobs no o' = some q → ¬ kn.o q := by
    intro o' q hq
    obtain ⟨h1, h2⟩ := newAt_lt hq
    exact hfo q h1 h2
  -- a new object is in the list
  have hnewA : ∀ o' q, newAt S.obs S.oobs no o' = some q → Cc.A q = Cx.A o' ∧ Cc.N q = Cx.N o' ∧ Cc.K q = Cx.K o' := by
    intro o' q hq
    obtain ⟨h1, ob, h2⟩ := newAt_key hq
    have hin : ∃ g x, look q L = some (o', g, x) := by
      -- what the list holds for o'
      have : ∀ (l : List (Nat × Obj)) (L : BackL), backObs S G a.th no nx l = some L → ∀ ob, (o', ob) ∈ l → ∃ y, look q L = some y := by
        intro l
        induction l with
        | nil => intro L _ ob hm; simp at hm
        | cons p l ih =>
          obtain ⟨k, ob1⟩ := p
          intro L hL ob hm
          simp only [backObs] at hL
          rcases List.mem_cons.1 hm with e | hm
          · cases e
            split at hL
            · rename_i y l' h3 h4
              cases hL
              obtain ⟨q', o2, g, x⟩ := y
              have hbb := h3
              unfold backOb at hbb
              rw [h1] at hbb
              simp only at hbb
              rw [hq] at hbb
              split at hbb
              · rename_i et v n hn
                cases hn
                split at hbb
                · cases hbb; exact ⟨_, look_cons_self⟩
                · cases hbb
              · cases hbb
            · rename_i l' h3 h4
              unfold backOb at h3
              rw [h1] at h3
              simp only at h3
              split at h3
              · split at h3 <;> cases h3
              · cases h3
            · cases hL
          · split at hL
            · rename_i y l' h3 h4
              cases hL
              obtain ⟨z, hz⟩ := ih l' h4 ob hm
              by_cases e : y.1 = q
              · obtain ⟨y1, y2⟩ := y
                simp only at e; subst e
                exact ⟨_, look_cons_self⟩
              · obtain ⟨y1, y2⟩ := y
                exact ⟨z, by rw [look_cons_ne e]; exact hz⟩
            · rename_i l' h3 h4
              cases hL
              exact ih _ h4 ob hm
            · cases hL
      obtain ⟨⟨o2, g, x⟩, hy⟩ := this S.oobs L hL ob (look_mem h2)
      obtain ⟨ob2, h3, h4⟩ := hLs q o2 g x hy
      refine ⟨g, x, ?_⟩
      cases h4 with
      | row a1 a0 a2 a3 => exact absurd (hslb _ _ _ _ a2) (hnewk _ _ hq)
      | box a1 a0 a2 a3 => exact absurd (hbxb _ _ a2).1 (hnewk _ _ hq)
      | new a1 a2 a3 => rw [newAt_inj hq a2]; exact hy
    obtain ⟨g, x, hy⟩ := hin
    have hn := hnewk o' q hq
    simp only [Cc, backCtx, if_neg hn, hy, and_self]
  have hbk : BackOk tab S a.th no nx outs ρ C Cx Cc kn2 := by
    refine ⟨shift_den hvar hlen, ?_, ?_, ?_⟩
    · intro o' o off0 len0 rw' et d ho ht
      have hko := hslb o' o off0 len0 ht
      refine ⟨.inl hko, ?_⟩
      obtain ⟨ob, h1, hB⟩ := st.inv o' _ ht
      rw [ho] at h1; cases h1
      obtain ⟨dp, et', x, ti, rows, m, n, c, root, gr, obr, d', z1, z2, z3, z4, z5, z6, z7, z8, z9, z10, z11, z12, z13, z14, z15, z16, z17, z18, z19, z20⟩ := hB
      cases z1
      obtain ⟨s1, s2, s3⟩ := out.same o' (hthin o' _ ht)
      obtain ⟨t1, t2, t3⟩ := hold o hko
      refine ⟨m, n, c, z11, ⟨z12, z16, by rw [s2, z13]⟩, by rw [s3, z14], by rw [t2]; exact z15, by rw [t3]; exact z17, ?_⟩
      rw [t1, s1]; exact z18
    · intro o' o ht
      obtain ⟨q1, q2⟩ := hbxb o' o ht
      exact ⟨.inl q1, by rw [(hold o q1).1, (out.same o' (hthin o' _ ht)).1, q2]⟩
    · intro o' q hq
      exact ⟨.inr (newAt_lt hq), hnewA o' q hq⟩
  have hkle : kn.le kn2 := ⟨fun _ => .inl, fun _ => .inl⟩
  -- kept rows lie where they lay
  have hrowA : ∀ o' q off len x et y, look o' S.obs = some x → x.owned = true → look o' a.th = some (.sl q off len) → look o' S.oobs = some (.row true et y) → Cx.A o' = C.A q ∧ Cx.N o' = C.N q ∧ Cx.K o' = C.K q := by
    intro o' q off len x et y ho how ht hoo
    obtain ⟨ob, h1, hB⟩ := st.inv o' _ ht
    rw [ho] at h1; cases h1
    obtain ⟨dp, et', x', ti, rows, m, n, c, root, gr, obr, d', z1, z2, z3, z4, z5, z6, z7, z8, z9, z10, z11, z12, z13, z14, z15, z16, z17, z18, ⟨dp2, vw, z19⟩, z20⟩ := hB
    obtain ⟨s1, s2, s3⟩ := out.same o' (hthin o' _ ht)
    simp only [keptWhole, List.all_eq_true] at hkw
    have := hkw _ (look_mem ho)
    simp only [how, hoo, ht, z19, Bool.not_true, Option.isNone_some, Bool.false_or] at this
    obtain ⟨y1, y2, y3⟩ := z20 this
    exact ⟨s1.trans y1, s2.trans y2, s3.trans y3⟩
  let L2 : List (Nat × (Grd × Obj)) := L.map fun p => (p.1, p.2.2)
  have hL2 : ∀ q g x, look q L2 = some (g, x) → ∃ o' ob, look q L = some (o', g, x) ∧ look o' S.oobs = some ob ∧ BackIs S G a.th no nx q o' ob g x := by
    intro q g x hq
    rw [show look q L2 = (look q L).map _ from look_map _ q L] at hq
    cases hy : look q L with
    | none => rw [hy] at hq; cases hq
    | some y =>
      obtain ⟨o', g', x'⟩ := y
      rw [hy] at hq
      cases hq
      obtain ⟨ob, h1, h2⟩ := hLs q o' g x hy
      exact ⟨o', ob, rfl, h1, h2⟩
  have hL2n : ∀ q, look q L2 = none → look q L = none := by
    intro q hq
    rw [show look q L2 = (look q L).map _ from look_map _ q L] at hq
    cases hy : look q L with
    | none => rfl
    | some y => rw [hy] at hq; cases hq
  have habs : ∀ q x, look q L2 = some x → (Γ.appOb (dels (passedOf S.obs a.th))).obj q = none := by
    rintro q ⟨g, x⟩ hq
    obtain ⟨o', ob, h1, h2, h3⟩ := hL2 q g x hq
    cases h3 with
    | row a1 a0 a2 a3 => exact obj_dels_none _ _ (mem_passed a1 a0 (.inl ⟨_, _, a2⟩))
    | box a1 a0 a2 a3 => exact obj_dels_none _ _ (mem_passed a1 a0 (.inr a2))
    | new a1 a2 a3 =>
      refine obj_dels_none' _ _ ?_
      cases hx : Γ.obj q with
      | none => rfl
      | some x => exact absurd (h.obs q x.1 x.2 hx).1 (hnewk _ _ a2)
  have hsurv : ∀ o' g' ob', (Γ.appOb (dels (passedOf S.obs a.th))).obj o' = some (g', ob') → holdsG ρ g' → ob'.isView = false → ∀ q g x o2, look q L = some (o2, g, x) → Disj (Cx.F o2) (C.F o') := by
    intro o' g' ob' ho' hg' hv' q g x o2 hq b y hf hf'
    obtain ⟨hn', ho⟩ := obj_dels _ Γ ho'
    obtain ⟨ob, h1, h2⟩ := hLs q o2 g x hq
    rcases out.own o2 ob h1 b y hf with hf | hf
    · obtain ⟨m, hm, hf2⟩ := hWr b y hf
      obtain ⟨gm, obm, hom, hgm, howm⟩ := hpo m hm
      exact h.dis m o' gm g' _ ob' hom ho hgm hg' (fun e => hn' (e ▸ hm)) howm hv' b y hf2 hf'
    · have := h.old ho hg' hv' hf'
      omega
  have hrel := hdel.addL (L := L2) (Γ' := Γ.appOb (dels (passedOf S.obs a.th) ++ (L2.reverse.map fun p => (p.1, some p.2)))) (C' := Cc) (kn' := kn2) (fun t => by rw [get_appOb, get_appOb]) (fun o => by rw [Gam.appOb_append, obj_adds]) habs hkle ?_ hold ?_ ?_ ?_ ?_ ?_
  · refine ⟨Cc, kn2, hrel, ?_, ⟨hkle, hold⟩, fun o ho => ho, fun x hx => hx⟩
    -- the result
    have hres := out.res
    obtain ⟨c1, c2⟩ := mapM_get hys
    unfold ResRel at hres
    split at hres
    · rename_i x0 hx0
      rw [hx0] at c1
      match ys, c1 with
      | [y], _ =>
        obtain ⟨x1, h1, h2⟩ := c2 0 y rfl
        rw [hx0] at h1
        cases h1
        exact backS1_sound hbk hres h2
    · rename_i hx0
      obtain ⟨vs, rfl, h1, h2⟩ := hres
      have hne : ∀ y, ys ≠ [y] := by
        rintro y rfl
        match hm : S.outs, c1 with
        | [x], _ => exact hx0 x hm
      have : SVRel tab Cc kn2.o ρ (.tup ys) (.tuple vs) := by
        refine ⟨vs, rfl, by omega, fun j y hj => ?_⟩
        obtain ⟨x1, h3, h4⟩ := c2 j y hj
        obtain ⟨u, h5, h6⟩ := h2 j x1 h3
        exact ⟨u, h5, backS1_sound hbk h6 h4⟩
      match ys, hne with
      | [], _ => exact this
      | [y], hne => exact absurd rfl (hne y)
      | _ :: _ :: _, _ => exact this
  · rintro q ⟨g, x⟩ hq
    obtain ⟨o', ob, h1, h2, h3⟩ := hL2 q g x hq
    cases h3 with
    | row a1 a0 a2 a3 => exact .inl (hslb _ _ _ _ a2)
    | box a1 a0 a2 a3 => exact .inl (hbxb _ _ a2).1
    | new a1 a2 a3 => exact .inr (newAt_lt a2)
  · intro o x ho
    refine hFn o ?_
    cases hy : look o L2 with
    | none => exact hL2n o hy
    | some y => rw [habs o y hy] at ho; cases ho
  · intro q g x hq
    obtain ⟨o', ob, h1, h2, h3⟩ := hL2 q g x hq
    obtain ⟨w1, w2⟩ := out.ob o' ob h2
    have hF := hFL q o' g x h1
    cases h3 with
    | @row off len et y x0 a1 a0 a2 a3 =>
      refine ⟨rfl, ⟨nx + y, rfl, .inr ⟨by omega, by omega⟩⟩, fun et' x' e => ?_, fun hg => ?_⟩
      · cases e; exact hfx _ (by omega) (by simp only; omega)
      · obtain ⟨rows, r1, r2⟩ := w2
        obtain ⟨y1, y2, y3⟩ := hrowA o' q off len x0 et _ a1 a0 a2 h2
        obtain ⟨t1, t2, t3⟩ := hold q (hslb _ _ _ _ a2)
        refine ⟨rows, ?_, ?_⟩
        · rw [← r1]; exact hbk.vars (.var y) (by simpa [Exp.bnd] using a3)
        · rw [hF, t1, t2, t3, ← y1, ← y2, ← y3]; exact r2
    | @box cells cs x0 a1 a0 a2 a3 =>
      refine ⟨rfl, trivial, fun et' x' e => (by cases e), fun hg => ?_⟩
      obtain ⟨b, base, r1, r2, r3, r4⟩ := w2
      obtain ⟨c1, c2⟩ := mapM_get a3
      obtain ⟨t1, t2⟩ := hbk.bx o' q a2
      refine ⟨b, base, t2.trans r1, by rw [hF, r2, c1], fun j l hj => ?_, fun e x hx => r4 rfl x (by omega)⟩
      obtain ⟨l1, h5, h6⟩ := c2 j l hj
      obtain ⟨v, h7, h8⟩ := r3 j l1 h5
      exact ⟨v, h7, backLeaf_sound hbk h8 h6⟩
    | @new et y a1 a2 a3 =>
      refine ⟨rfl, ⟨nx + y, rfl, .inr ⟨by omega, by omega⟩⟩, fun et' x' e => ?_, fun hg => ?_⟩
      · cases e; exact hfx _ (by omega) (by simp only; omega)
      · obtain ⟨rows, r1, r2⟩ := w2
        obtain ⟨t1, t2, t3⟩ := hnewA o' q a2
        refine ⟨rows, ?_, ?_⟩
        · rw [← r1]; exact hbk.vars (.var y) (by simpa [Exp.bnd] using a3)
        · rw [hF, t1, t2, t3]; exact r2
  · intro o1 o2 g1 g2 ob1 ob2 hq1 hq2 hg1 hg2 hne hown
    obtain ⟨p1, b1, h1, h2, h3⟩ := hL2 o1 g1 ob1 hq1
    obtain ⟨p2, b2, h4, h5, h6⟩ := hL2 o2 g2 ob2 hq2
    rw [hFL _ _ _ _ h1, hFL _ _ _ _ h4]
    refine out.dis p1 p2 b1 b2 h2 h5 ?_ h3.owned.1
    rintro rfl
    apply hne
    cases h3 with
    | row a1 a0 a2 a3 => cases h6 with
      | row c1 c0 c2 c3 => rw [a2] at c2; cases c2; rfl
      | box c1 c0 c2 c3 => rw [a2] at c2; cases c2
      | new c1 c2 c3 => rw [a1] at c1; cases c1
    | box a1 a0 a2 a3 => cases h6 with
      | row c1 c0 c2 c3 => rw [a2] at c2; cases c2
      | box c1 c0 c2 c3 => rw [a2] at c2; cases c2; rfl
      | new c1 c2 c3 => rw [a1] at c1; cases c1
    | new a1 a2 a3 => cases h6 with
      | row c1 c0 c2 c3 => rw [a1] at c1; cases c1
      | box c1 c0 c2 c3 => rw [a1] at c1; cases c1
      | new c1 c2 c3 => rw [a2] at c2; cases c2; rfl
  · intro o1 o2 g1 g2 ob1 ob2 hq1 ho2 hg1 hg2 hv2 _
    obtain ⟨p1, b1, h1, h2, h3⟩ := hL2 o1 g1 ob1 hq1
    rw [hFL _ _ _ _ h1]
    exact hsurv o2 g2 ob2 ho2 hg2 hv2 o1 g1 ob1 p1 h1
  · intro q g x hq hg hown b y hf
    obtain ⟨o', ob, h1, h2, h3⟩ := hL2 q g x hq
    rw [hFL _ _ _ _ h1] at hf
    rcases out.own o' ob h2 b y hf with hf | hf
    · obtain ⟨m, hm, hf2⟩ := hWr b y hf
      obtain ⟨gm, obm, hom, hgm, howm⟩ := hpo m hm
      exact h.own m gm _ hom hgm howm b y hf2
    · exact .inr (Nat.le_trans h.frm.size hf)
end
end Gp
