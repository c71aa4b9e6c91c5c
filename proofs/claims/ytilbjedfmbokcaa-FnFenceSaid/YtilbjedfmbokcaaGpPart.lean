/- Gp, part 18: rows with slices inside: a part of one is appended to another row, and what is left stays. -/
import Derived.Test.YtilbjedfmbokcaaGpOp13
set_option linter.unusedVariables false
set_option linter.unusedSimpArgs false
namespace Gp
open Go
section
variable {tab : Tab} {Γ : Gam} {ρ : Env} {tm : Array Value} {w w' : World} {C : Ctx} {kn : Kn} {Wr : CS} {w0 : World} {P : Program} {I : Nat → List T → List T → Prop} {G : Grd} {nx no : Nat}

def maskOf (te : TI) : List Bool := if Nat.beq te.size 1 then [] else te.cks.map fun c => !c.flat
theorem punchL_len (m : List Bool) (l : List T) (a b : Nat) : (T.punchL m l a b).length = l.length := by simp [T.punchL]
theorem punchL_get {m : List Bool} {l : List T} {a b i : Nat} (hi : i < l.length) : (T.punchL m l a b)[i]? = some (if a ≤ i ∧ i < b then T.void m l[i] else l[i]) := by
  unfold T.punchL
  rw [List.getElem?_mapIdx, List.getElem?_eq_getElem hi]; rfl
theorem punch_cell {te : TI} {rows : List T} (hsz : te.size = te.cks.length) (hwf : WfRows te.size rows) {a b i j : Nat} (hi : i < rows.length) {ck : CK} (hck : te.cks[j]? = some ck) :
    cellT te.size (T.punchL (maskOf te) rows a b) i j = if a ≤ i ∧ i < b ∧ ck.flat = false then .hole else if te.size = 1 ∧ a ≤ i ∧ i < b then .hole else cellT te.size rows i j := by
  have hj := (List.getElem?_eq_some_iff.1 hck).1
  unfold cellT
  rw [List.getD_eq_getElem?_getD, List.getD_eq_getElem?_getD, punchL_get hi, List.getElem?_eq_getElem hi]
  simp only [Option.getD_some]
  by_cases hr : a ≤ i ∧ i < b
  · rw [if_pos hr]
    by_cases h1 : te.size = 1
    · simp only [h1, if_true, hr, and_self, true_and]
      unfold maskOf T.void
      simp [h1]
    · obtain ⟨l, h2, h3⟩ := hwf h1 i hi
      rw [List.getElem?_eq_getElem hi] at h2
      have h2 := Option.some.inj h2
      have hm : (maskOf te) = te.cks.map fun c => !c.flat := by
        unfold maskOf
        rw [if_neg]
        exact fun h => h1 (Nat.eq_of_beq_eq_true h)
      have hne : (maskOf te).isEmpty = false := by
        rw [hm]
        cases hk : te.cks with
        | nil => rw [hk] at hj; simp at hj
        | cons => rfl
      rw [if_neg h1, if_neg h1, h2]
      simp only [T.void, hne, Bool.false_eq_true, if_false, T.cell, hr, true_and, h1, false_and]
      have hjl : j < l.length := by omega
      have g1 : (l.mapIdx fun j c => if (maskOf te).getD j false = true then T.hole else c).getD j .hole = if (maskOf te).getD j false = true then T.hole else l[j] := by
        rw [List.getD_eq_getElem?_getD, List.getElem?_mapIdx, List.getElem?_eq_getElem hjl]; rfl
      have g2 : l.getD j .hole = l[j] := by
        rw [List.getD_eq_getElem?_getD, List.getElem?_eq_getElem hjl]; rfl
      have g3 : (maskOf te).getD j false = !ck.flat := by
        rw [hm, List.getD_eq_getElem?_getD, List.getElem?_map, hck]; rfl
      rw [g1, g2, g3]
      cases ck.flat <;> simp
  · have n1 : ¬ (a ≤ i ∧ i < b ∧ ck.flat = false) := fun h => hr ⟨h.1, h.2.1⟩
    have n2 : ¬ (te.size = 1 ∧ a ≤ i ∧ i < b) := fun h => hr ⟨h.2.1, h.2.2⟩
    simp only [if_neg hr, if_neg n1, if_neg n2]
theorem punch_wf {te : TI} (hne : te.cks ≠ []) {rows : List T} (hwf : WfRows te.size rows) {a b : Nat} : WfRows te.size (T.punchL (maskOf te) rows a b) := by
  intro hk i hi
  rw [punchL_len] at hi
  obtain ⟨l, h1, h2⟩ := hwf hk i hi
  rw [punchL_get hi]
  rw [List.getElem?_eq_getElem hi] at h1
  rw [Option.some.inj h1]
  split
  · unfold T.void
    split
    · rename_i hm
      exfalso
      unfold maskOf at hm
      rw [if_neg (fun h => hk (Nat.eq_of_beq_eq_true h))] at hm
      exact hne (by simpa using hm)
    · exact ⟨_, rfl, by simp [h2]⟩
  · exact ⟨l, rfl, h2⟩
/-- A row's part, moved out; what is left. -/
theorem DRel.split {et : TypeId} {te : TI} (hte : tab.get et = some te) (hnf : flatCks te.cks = false) {rows : List T} {a : Option Addr} {N K m n : Nat} {F : CS} (hD : DRel tab w true (.sl et) (.slice a N K) (.list rows) F) (hmn : m + n ≤ N) :
    ∃ b off us Fs F1, (a = some ⟨b, off, none⟩ ∨ K = 0) ∧ Src tab w te ((rows.take (m + n)).drop m) b (off + m * te.size) n us Fs ∧
      DRel tab w true (.sl et) (.slice a N K) (.list (T.punchL (maskOf te) rows m (m + n))) F1 ∧ Sub F1 F ∧ ∀ i j, i < n → j < te.size → Sub (Fs i j) F ∧ Disj F1 (Fs i j) := by
  cases hD with
  | @sl et ti' rows _ N K b off vs Fs F hti' hsz hn hc ha hwf hcell hrel hown hdis hdr hF =>
    rw [hte] at hti'; cases hti'
    have hNK : N * te.size ≤ K * te.size := Nat.mul_le_mul_right _ hc
    let fl : Nat → Bool := fun j => match te.cks[j]? with | some ck => ck.flat | none => true
    have hfl : ∀ {j : Nat} {ck : CK}, te.cks[j]? = some ck → fl j = ck.flat := fun {j ck} h => by simp only [fl, h]
    have h1f : te.size = 1 → ∀ {j : Nat} {ck : CK}, te.cks[j]? = some ck → ck.flat = false := by
      intro h1 j ck hck
      rw [hsz] at h1
      obtain ⟨c0, hc0⟩ := List.length_eq_one_iff.1 h1
      rw [hc0] at hck hnf
      have hj := (List.getElem?_eq_some_iff.1 hck).1
      simp only [List.length_cons, List.length_nil] at hj
      have : j = 0 := by omega
      subst this
      simp at hck
      subst hck
      simpa [flatCks] using hnf
    refine ⟨b, off, fun i j => vs (m + i) j, fun i j => if fl j then Emp else Fs (m + i) j, rowF b off K N te.size (fun i j => if m ≤ i ∧ i < m + n ∧ fl j = false then Emp else Fs i j), ha, ⟨?_, ?_, ?_, ?_, ?_, ?_⟩, ?_, ?_, ?_⟩
    · rw [List.length_drop, List.length_take]; omega
    · exact ext_wf (by omega) hwf
    · intro i j hi hj
      have := hcell (m + i) j (by omega) hj
      rw [← this]; congr 1; rw [Nat.add_mul]; omega
    · intro i j hi hj
      obtain ⟨ck, hck⟩ : ∃ ck, te.cks[j]? = some ck := ⟨_, List.getElem?_eq_getElem (by omega)⟩
      exact (hrel (m + i) j ck (by omega) hck).ownCell
    · intro i j ck hi hck
      rw [cellT_ext (by omega)]
      have hr := hrel (m + i) j ck (by omega) hck
      show DRel tab w true ck _ _ (if fl j then Emp else Fs (m + i) j)
      rw [hfl hck]
      by_cases hf : ck.flat = true
      · rw [if_pos hf]; exact hr.flat hf
      · rw [if_neg hf]; exact hr
    · intro i j i' j' hi hj hi' hj' hne
      show Disj (if fl j then Emp else Fs (m + i) j) (if fl j' then Emp else Fs (m + i') j')
      split
      · exact fun _ _ h => h.elim
      · split
        · exact fun _ _ _ h => h.elim
        · exact hdis rfl _ _ _ _ (by omega) hj (by omega) hj' (fun e => hne (by simp at e ⊢; omega))
    · refine .sl (vs := vs) (Fs := fun i j => if m ≤ i ∧ i < m + n ∧ fl j = false then Emp else Fs i j) hte hsz (by rw [punchL_len]; exact hn) hc ha (punch_wf (fun h => by rw [h] at hnf; cases hnf) hwf) hcell ?_ hown ?_ ?_ rfl
      · intro i j ck hi hck
        have hr := hrel i j ck hi hck
        rw [punch_cell hsz hwf (by omega) hck]
        show DRel tab w true ck _ _ (if m ≤ i ∧ i < m + n ∧ fl j = false then Emp else Fs i j)
        rw [hfl hck]
        by_cases h0 : m ≤ i ∧ i < m + n ∧ ck.flat = false
        · rw [if_pos h0, if_pos h0]
          cases ck with
          | sl et' =>
            obtain ⟨va, vn, vc, hva⟩ := hr.isSlice
            rw [hva]; exact .hole
          | _ => cases h0.2.2
        · rw [if_neg h0, if_neg h0]
          rw [if_neg (fun h => h0 ⟨h.2.1, h.2.2, h1f h.1 hck⟩)]
          exact hr
      · intro _ i j i' j' hi hj hi' hj' hne
        show Disj (if m ≤ i ∧ i < m + n ∧ fl j = false then Emp else Fs i j) (if m ≤ i' ∧ i' < m + n ∧ fl j' = false then Emp else Fs i' j')
        split
        · exact fun _ _ h => h.elim
        · split
          · exact fun _ _ _ h => h.elim
          · exact hdis rfl _ _ _ _ hi hj hi' hj' hne
      · intro _ i j hi hj
        show Disj _ (if m ≤ i ∧ i < m + n ∧ fl j = false then Emp else Fs i j)
        split
        · exact fun _ _ _ h => h.elim
        · exact hdr rfl i j hi hj
    · subst hF
      rintro b' o' (⟨rfl, h1, h2⟩ | ⟨i', j', hi', hj', hf'⟩)
      · exact .inl ⟨rfl, h1, by simpa using h2⟩
      · split at hf'
        · exact hf'.elim
        · exact .inr ⟨i', j', hi', hj', hf'⟩
    · intro i j hi hj
      constructor
      · intro b' o' hf
        split at hf
        · exact hf.elim
        · subst hF; exact .inr ⟨m + i, j, by omega, hj, hf⟩
      · intro b' o' hf hg
        split at hg
        · exact hg.elim
        · rename_i hflj
          rcases hf with ⟨rfl, h1, h2⟩ | ⟨i', j', hi', hj', hf'⟩
          · exact hdr rfl (m + i) j (by omega) hj _ _ ⟨rfl, h1, h2⟩ hg
          · split at hf'
            · exact hf'.elim
            · rename_i hn2
              refine hdis rfl i' j' (m + i) j hi' hj' (by omega) hj (fun e => ?_) _ _ hf' hg
              simp only [Prod.mk.injEq] at e
              exact hn2 ⟨by omega, by omega, by rw [e.2]; simpa using hflj⟩

/-- A new owned row, memory turned, what it took dropped. -/
theorem Rel.newRow2 (h : Rel tab Γ ρ tm w C kn Wr w0) {ms : List Nat} (hms : ∀ o ∈ ms, ∃ g et d, Γ.obj o = some (g, .row true et d) ∧ holdsG ρ g) {w2 : World} (h1 : Rel tab (Γ.appOb (dels ms)) ρ tm w2 C kn Wr w0)
    {et : TypeId} {rows : List T} {a : Option Addr} {n c : Nat} {F : CS} (hD : DRel tab w2 true (.sl et) (.slice a n c) (.list rows) F)
    (hF : ∀ b x, F b x → w.heap.size ≤ b ∨ ∃ o ∈ ms, C.F o b x) (hno : ¬ kn.o no) (hd : ρ nx = .list rows) :
    Rel tab ((Γ.appOb (dels ms)).setOb no (G, .row true et (.var nx))) ρ tm w2 (C.set no a n c F) ((kn.addV nx).addO no) Wr w0 := by
  have hdj : ∀ o' g' ob', (Γ.appOb (dels ms)).obj o' = some (g', ob') → holdsG ρ g' → ob'.isView = false → Disj F (C.F o') := by
    intro o' g' ob' ho' hg' hv' b x hf hf'
    obtain ⟨hn', ho⟩ := obj_dels ms Γ ho'
    have hlt := h.old ho hg' hv' hf'
    rcases hF b x hf with h2 | ⟨m, hm, h2⟩
    · omega
    · obtain ⟨gm, etm, dm, hom, hgm⟩ := hms m hm
      exact h.dis m o' gm g' _ ob' hom ho hgm hg' (fun e => hn' (e ▸ hm)) rfl hv' b x h2 hf'
  refine (h1.know (Kn.le_addV kn nx)).addOb (ob := .row true et (.var nx)) hno ⟨nx, rfl, .inr rfl⟩ (fun _ => ?_) (fun _ _ => hdj) (fun _ _ o' g' ob' ho' hg' hown => ?_) (fun _ _ b x hf => ?_)
  · exact ⟨rows, hd, by rw [Ctx.set_self.1, Ctx.set_self.2.1, Ctx.set_self.2.2.1, Ctx.set_self.2.2.2]; exact hD⟩
  · exact (hdj o' g' ob' ho' hg' (by cases ob' <;> simp_all [Obj.owned, Obj.isView])).symm
  · rcases hF b x hf with h2 | ⟨m, hm, h2⟩
    · exact .inr (Nat.le_trans h.frm.size h2)
    · obtain ⟨gm, etm, dm, hom, hgm⟩ := hms m hm
      exact h.own m gm _ hom hgm rfl b x h2

theorem punchL_ext (m : List Bool) (l : List T) {p q x : Nat} (h : q ≤ x) (k : Nat) : ((T.punchL m l p q).take k).drop x = (l.take k).drop x := by
  apply List.ext_getElem?
  intro i
  rw [List.getElem?_drop, List.getElem?_drop, List.getElem?_take, List.getElem?_take]
  split
  · unfold T.punchL
    rw [List.getElem?_mapIdx]
    cases l[x + i]? with
    | none => rfl
    | some v => simp only [Option.map_some]; rw [if_neg (by omega)]
  · rfl
/-- A part of a row goes elsewhere, the row stays, with holes. -/
def anAppendK (tab : Tab) (Γ : Gam) (G : Grd) (nx no : Nat) (t t2 : TypeId) (x y : Operand) : Option Res :=
  match G with
  | _ :: _ => none
  | [] => match tab.get t, tab.get t2, opd Γ [] x, opd Γ [] y with
    | some ti, some ti2, some sx, some (.s (.one (.sl o et' off len))) => match ti.td, ti2.td with
      | .slice et, .slice et2 => match tab.get et with
        | some te => if Nat.beq et et2 && Nat.beq et et' && Nat.blt 0 te.size && Nat.blt 0 te.bytes && !flatCks te.cks then
            match dstOf Γ [] et sx, Γ.obj o with
            | some (de, ms), some ([], .row true et'' (.var d)) => if Nat.beq et et'' && !ms.contains o && !(off == .int 0 && len == .un .len (.var d)) then
                some ⟨.s (.one (.sl no et (.int 0) (.un .len (.var nx)))), dels (ms ++ [o]) ++ [(no, some ([], .row true et (.var nx))), (o, some ([], .row true et (.tri (.punch (maskOf te)) (.var d) off (plusE off len))))],
                  [([], .set nx (.bin .cat de (extE (.var d) off len))), ([], .chk (.bin (.cmp .leq) (.un .len (.var nx)) (.int (limit te.bytes))))], nx + 1, no + 1⟩
              else none
            | _, _ => none
          else none
        | none => none
      | _, _ => none
    | _, _, _, _ => none
/-- What is left of a row goes elsewhere, too. -/
def anAppendL (tab : Tab) (Γ : Gam) (G : Grd) (nx no : Nat) (t t2 : TypeId) (x y : Operand) : Option Res :=
  match G with
  | _ :: _ => none
  | [] => match tab.get t, tab.get t2, opd Γ [] x, opd Γ [] y with
    | some ti, some ti2, some sx, some (.s (.one (.sl o et' off len))) => match ti.td, ti2.td with
      | .slice et, .slice et2 => match tab.get et with
        | some te => if Nat.beq et et2 && Nat.beq et et' && Nat.blt 0 te.size && Nat.blt 0 te.bytes && !flatCks te.cks then
            match dstOf Γ [] et sx, Γ.obj o with
            | some (de, ms), some ([], .row true et'' (.tri (.punch m) d p q)) => if Nat.beq et et'' && !ms.contains o then
                some ⟨.s (.one (.sl no et (.int 0) (.un .len (.var nx)))), dels (ms ++ [o]) ++ [(no, some ([], .row true et (.var nx)))],
                  [([], .set nx (.bin .cat de (.tri .ext d off (plusE off len)))), ([], .chk (.bin (.cmp .leq) (.un .len (.var nx)) (.int (limit te.bytes)))), ([], .chk (.bin (.cmp .leq) q off))], nx + 1, no + 1⟩
              else none
            | _, _ => none
          else none
        | none => none
      | _, _ => none
    | _, _, _, _ => none

theorem anAppendK_sound (hT : TabOk P tab) (h : Rel tab Γ ρ tm w C kn Wr w0) (hG : holdsG ρ G) {t t2 : TypeId} {x y : Operand} {r : Res} (hr : anAppendK tab Γ G nx no t t2 x y = some r) (hS : HoldsS I ρ r.sis)
    (hf : ∀ o, no ≤ o → o < r.no → ¬ kn.o o) (hfx : ∀ x, nx ≤ x → x < r.nx → ¬ kn.v x) {ds : List Deferred}
    {dst : Option Tmp} {ty : TypeId} {pos : String} {aft : Array Edge} {gd : Option (Nat × Bool)} :
    Yield P (execOp (Act.eval ⟨tm, ds⟩) ⟨dst, .call { callee := .builtin .append, args := #[x, y], argTypes := #[t, t2] }, ty, pos, aft, gd⟩) w fun v w' => Post tab Γ ρ tm C kn Wr w0 nx no r v w' := by
  unfold anAppendK at hr
  split at hr
  case h_1 => cases hr
  split at hr
  case h_2 => cases hr
  rename_i ti ti2 sx o et' off len hti hti2 hx hy
  split at hr
  case h_2 => cases hr
  rename_i et et2 htd htd2
  split at hr
  case h_2 => cases hr
  rename_i te hte
  split at hr
  case isFalse => cases hr
  rename_i hc
  simp only [Bool.and_eq_true, Bool.not_eq_true'] at hc
  obtain ⟨⟨⟨⟨c1, c2⟩, hk0⟩, hb0⟩, hnf⟩ := hc
  have c1 := Nat.eq_of_beq_eq_true c1
  have c2 := Nat.eq_of_beq_eq_true c2
  subst c1; subst c2
  have hk0 : 0 < te.size := Nat.le_of_ble_eq_true hk0
  have hb0 : 0 < te.bytes := Nat.le_of_ble_eq_true hb0
  split at hr
  case h_2 => cases hr
  rename_i de ms et'' dv hdst hob
  split at hr
  case isFalse => cases hr
  rename_i hc2
  simp only [Bool.and_eq_true, Bool.not_eq_true'] at hc2
  obtain ⟨⟨d1, d2⟩, _⟩ := hc2
  obtain ⟨d, hdv⟩ : ∃ d, Exp.var dv = d := ⟨_, rfl⟩
  rw [hdv] at hob
  have d1 := Nat.eq_of_beq_eq_true d1
  subst d1
  have d2 : o ∉ ms := by simpa using d2
  cases hr
  obtain ⟨a, n, c, rows, F, e1, e2, e3, e4, e5⟩ := dstOf_sound hT h hG hte (opd_sound h hG hx (ds := ds)) hdst
  have hv := opd_sound h hG hy (ds := ds)
  obtain ⟨⟨hko, m, n2, a2, c2, hm, hn2, hvy, q1, q2, q3, q4⟩, _⟩ := hv
  obtain ⟨rowsO, hdO, hDO⟩ := (h.obs o [] _ hob).2.2 trivial
  have hhd := hDO.header
  obtain ⟨b2, off2, us, Fs, F1, s1, s2, s3, s4, s5⟩ := hDO.split hte hnf q1
  have hsz : tab.sz et = te.size := by simp [Tab.sz, hte]
  have ha2 : a2 = some ⟨b2, off2 + m * te.size, none⟩ ∨ n2 = 0 := by
    rcases s1 with s1 | s1
    · rcases q4 with q4 | ⟨b, base, p1, p2⟩
      · exact .inr (by omega)
      · rw [s1] at p1
        cases p1
        rw [hsz] at p2
        exact .inl p2
    · exact .inr (by omega)
  have hset := hS ([], .set nx (.bin .cat de (extE (.var dv) off len))) (by simp) trivial
  rw [hdv] at hset
  have hchk := hS ([], .chk (.bin (.cmp .leq) (.un .len (.var nx)) (.int (limit te.bytes)))) (by simp) trivial
  have hext := extE_den hdO hm hn2 (show m + n2 ≤ rowsO.length by omega)
  have hd : ρ nx = .list (rows ++ (rowsO.take (m + n2)).drop m) := by
    rw [show ρ nx = _ from hset]; simp only [den, B.den, e2, hext, T.cat]
  have hd2 : den ρ (.tri (.punch (maskOf te)) d off (plusE off len)) = .list (T.punchL (maskOf te) rowsO m (m + n2)) := by
    have hp := plusE_den hm hn2
    simp only [den, Tr.den, hdO, hm, hp, T.punch]
    congr 2 <;> omega
  have hn := e3.header.1
  have hln : ((rowsO.take (m + n2)).drop m).length = n2 := s2.len
  have hlenE : den ρ (.un .len (.var nx)) = .int ((n + n2 : Nat) : Int) := by
    simp only [den, U.den, hd, T.len, List.length_append, hn, hln]
  have hle := den_leq hchk hlenE rfl
  have hlim : (n + n2) * te.bytes ≤ 140737488355328 := by
    have : n + n2 ≤ limit te.bytes := by omega
    unfold limit at this
    have h3 := Nat.mul_le_mul_right te.bytes this
    have h4 := Nat.div_mul_le_self 140737488355328 te.bytes
    omega
  have hms : ∀ p ∈ ms ++ [o], ∃ g et d, Γ.obj p = some (g, .row true et d) ∧ holdsG ρ g := fun p hp => (List.mem_append.1 hp).elim (e5 p) fun hp => by
    simp only [List.mem_singleton] at hp
    subst hp; exact ⟨_, _, _, hob, trivial⟩
  have hFO : Disj F (C.F o) := by
    intro b x h1 h2
    obtain ⟨p, hp, hf1⟩ := e4 b x h1
    obtain ⟨g, et', d', r1, r2⟩ := e5 p hp
    exact h.dis p o g [] _ _ r1 hob r2 trivial (fun e => d2 (e ▸ hp)) rfl rfl b x hf1 h2
  have hdj : ∀ i j, i < n2 → j < te.size → Disj F (Fs i j) := fun i j hi hj => hFO.sub (Sub.refl _) (s5 i j hi hj).1
  obtain ⟨a', c', w', F', r1, r2, r3, r4, _⟩ := run_append (P := P) (ty := ty) hT hti htd hti2 htd2 hte hk0 hb0 e3 ha2 s2 hdj hlim
  have hF' : ∀ b x, F' b x → w.heap.size ≤ b ∨ ∃ p ∈ ms ++ [o], C.F p b x := fun b x hf => by
    rcases r4 b x hf with hf | hf | ⟨i, j, hi, hj, hf⟩
    · obtain ⟨p, hp, hf'⟩ := e4 b x hf
      exact .inr ⟨p, List.mem_append.2 (.inl hp), hf'⟩
    · exact .inl hf
    · exact .inr ⟨o, by simp, (s5 i j hi hj).1 b x hf⟩
  have h1 := h.turnedDel (ms := ms ++ [o]) (fun p hp => by obtain ⟨g, et', d', q1, q2⟩ := hms p hp; exact ⟨g, _, q1, q2, rfl⟩) r2 fun b x hf => by
    obtain ⟨p, hp, hf'⟩ := e4 b x hf
    exact ⟨p, List.mem_append.2 (.inl hp), hf'⟩
  have hno : ¬ kn.o no := hf no (Nat.le_refl _) (Nat.lt_succ_self _)
  have hon : o ≠ no := fun e => hno (e ▸ hko)
  have h2 := h.newRow2 (G := []) (nx := nx) (no := no) hms h1 r3 hF' hno hd
  have hlt : ∀ b x, C.F o b x → b < w.heap.size := fun b x hf => h.old hob trivial rfl hf
  have hFF : Disj F' F1 := by
    intro b x g1 g2
    have := hlt b x (s4 b x g2)
    rcases r4 b x g1 with hf | hf | ⟨i, j, hi, hj, hf⟩
    · exact hFO b x hf (s4 b x g2)
    · omega
    · exact (s5 i j hi hj).2 b x g2 hf
  have hD1 : DRel tab w' true (.sl et) (.slice (C.A o) (C.N o) (C.K o)) (.list (T.punchL (maskOf te) rowsO m (m + n2))) F1 :=
    s3.frame (r2.same (hFO.sub (Sub.refl _) s4) fun b x hf => hlt b x (s4 b x hf))
  have hANK : (C.set no a' (n + n2) c' F').A o = C.A o ∧ (C.set no a' (n + n2) c' F').N o = C.N o ∧ (C.set no a' (n + n2) c' F').K o = C.K o := ⟨(Ctx.set_ne hon).1, (Ctx.set_ne hon).2.1, (Ctx.set_ne hon).2.2.1⟩
  have hoth : ∀ p g ob, ((Γ.appOb (dels (ms ++ [o]))).setOb no ([], .row true et (.var nx))).obj p = some (g, ob) → p ≠ no → p ≠ o ∧ Γ.obj p = some (g, ob) := by
    intro p g ob hp hpn
    rw [Gam.obj_setOb_ne _ _ (Ne.symm hpn)] at hp
    obtain ⟨g1, g2⟩ := obj_dels _ _ hp
    exact ⟨fun e => g1 (by rw [e]; simp), g2⟩
  have h3 := h2.re (o := o) (g := []) (ob' := .row true et (.tri (.punch (maskOf te)) d off (plusE off len))) (.inl hko) (F' := F1) (kn' := (kn.addV nx).addO no) (Kn.le.refl _) trivial
    (fun et0 x0 he hv0 => by cases he)
    (fun _ => ⟨_, hd2, by
      rw [Ctx.set_self.1, Ctx.set_self.2.1, Ctx.set_self.2.2.1, Ctx.set_self.2.2.2, hANK.1, hANK.2.1, hANK.2.2]; exact hD1⟩)
    (fun _ _ p g ob hpo hp hg hv _ => by
      by_cases hpn : p = no
      · have : (C.set no a' (n + n2) c' F').F p = F' := by rw [hpn]; exact Ctx.set_self.2.2.2
        rw [this]; exact hFF.symm
      · rw [(Ctx.set_ne hpn).2.2.2]
        obtain ⟨_, hp2⟩ := hoth p g ob hp hpn
        exact (h.dis o p [] g _ ob hob hp2 trivial hg (Ne.symm hpo) rfl hv).sub s4 (Sub.refl _))
    (fun _ _ b x hf => h.own o [] _ hob trivial rfl b x (s4 b x hf))
  have hE : Γ.appOb (dels (ms ++ [o]) ++ [(no, some (([] : Grd), Obj.row true et (.var nx))), (o, some ([], .row true et (.tri (.punch (maskOf te)) d off (plusE off len))))]) = ((Γ.appOb (dels (ms ++ [o]))).setOb no ([], Obj.row true et (.var nx))).setOb o ([], .row true et (.tri (.punch (maskOf te)) d off (plusE off len))) := by
    rw [Gam.appOb_append]; rfl
  rw [← hE] at h3
  rw [hdv]
  unfold Yield
  simp only [execOp, resolve, invoke, builtin, Sem.run_bind, Sem.run_pure, Result.andThen_ok, List.map_toArray, List.map_cons, List.map_nil, e1, hvy]
  rw [r1]
  refine ⟨_, _, rfl, _, _, h3, ?_, ⟨⟨fun p hp => .inl hp, fun p hp => .inl hp⟩, fun p hp => ?_⟩, ?_, ?_⟩
  · obtain ⟨x1, x2, x3⟩ := r3.header
    have hno2 : no ≠ o := Ne.symm hon
    refine ⟨⟨.inr rfl, 0, n + n2, _, c', rfl, hlenE, rfl, ?_, x2, ?_, ?_⟩, fun cs => by simp⟩
    · rw [(Ctx.set_ne hno2).2.1, Ctx.set_self.2.1]; omega
    · rw [(Ctx.set_ne hno2).2.2.1, Ctx.set_self.2.2.1]; omega
    · rcases x3 with h0 | ⟨b, off, h0⟩
      · exact .inl h0
      · exact .inr ⟨b, off, by rw [(Ctx.set_ne hno2).1, Ctx.set_self.1]; exact h0, by rw [h0]; simp⟩
  · have hpn : p ≠ no := fun e => hno (e ▸ hp)
    by_cases e : p = o
    · subst e
      rw [Ctx.set_self.1, Ctx.set_self.2.1, Ctx.set_self.2.2.1]; exact hANK
    · rw [(Ctx.set_ne e).1, (Ctx.set_ne e).2.1, (Ctx.set_ne e).2.2.1, (Ctx.set_ne hpn).1, (Ctx.set_ne hpn).2.1, (Ctx.set_ne hpn).2.2.1]
      exact ⟨rfl, rfl, rfl⟩
  · intro p hp
    rcases hp with hp | hp
    · exact .inl hp
    · exact .inr ⟨by omega, by simp only; omega⟩
  · intro y hy
    rcases hy with hy | hy
    · exact .inl hy
    · exact .inr ⟨by omega, by simp only; omega⟩
theorem anAppendL_sound (hT : TabOk P tab) (h : Rel tab Γ ρ tm w C kn Wr w0) (hG : holdsG ρ G) {t t2 : TypeId} {x y : Operand} {r : Res} (hr : anAppendL tab Γ G nx no t t2 x y = some r) (hS : HoldsS I ρ r.sis)
    (hf : ∀ o, no ≤ o → o < r.no → ¬ kn.o o) (hfx : ∀ x, nx ≤ x → x < r.nx → ¬ kn.v x) {ds : List Deferred}
    {dst : Option Tmp} {ty : TypeId} {pos : String} {aft : Array Edge} {gd : Option (Nat × Bool)} :
    Yield P (execOp (Act.eval ⟨tm, ds⟩) ⟨dst, .call { callee := .builtin .append, args := #[x, y], argTypes := #[t, t2] }, ty, pos, aft, gd⟩) w fun v w' => Post tab Γ ρ tm C kn Wr w0 nx no r v w' := by
  unfold anAppendL at hr
  split at hr
  case h_1 => cases hr
  split at hr
  case h_2 => cases hr
  rename_i ti ti2 sx o et' off len hti hti2 hx hy
  split at hr
  case h_2 => cases hr
  rename_i et et2 htd htd2
  split at hr
  case h_2 => cases hr
  rename_i te hte
  split at hr
  case isFalse => cases hr
  rename_i hc
  simp only [Bool.and_eq_true, Bool.not_eq_true'] at hc
  obtain ⟨⟨⟨⟨c1, c2⟩, hk0⟩, hb0⟩, hnf⟩ := hc
  have c1 := Nat.eq_of_beq_eq_true c1
  have c2 := Nat.eq_of_beq_eq_true c2
  subst c1; subst c2
  have hk0 : 0 < te.size := Nat.le_of_ble_eq_true hk0
  have hb0 : 0 < te.bytes := Nat.le_of_ble_eq_true hb0
  split at hr
  case h_2 => cases hr
  rename_i de ms et'' mm d p q hdst hob
  split at hr
  case isFalse => cases hr
  rename_i hc2
  simp only [Bool.and_eq_true, Bool.not_eq_true'] at hc2
  obtain ⟨d1, d2⟩ := hc2
  have d1 := Nat.eq_of_beq_eq_true d1
  subst d1
  have d2 : o ∉ ms := by simpa using d2
  cases hr
  obtain ⟨a, n, c, rows, F, e1, e2, e3, e4, e5⟩ := dstOf_sound hT h hG hte (opd_sound h hG hx (ds := ds)) hdst
  have hv := opd_sound h hG hy (ds := ds)
  obtain ⟨⟨hko, m, n2, a2, c2, hm, hn2, hvy, q1, q2, q3, q4⟩, _⟩ := hv
  obtain ⟨rowsO, hdO, hDO⟩ := (h.obs o [] _ hob).2.2 trivial
  have hhd := hDO.header
  obtain ⟨b2, off2, us, Fs, F1, s1, s2, s3, s4, s5⟩ := hDO.split hte hnf q1
  have hsz : tab.sz et = te.size := by simp [Tab.sz, hte]
  have ha2 : a2 = some ⟨b2, off2 + m * te.size, none⟩ ∨ n2 = 0 := by
    rcases s1 with s1 | s1
    · rcases q4 with q4 | ⟨b, base, p1, p2⟩
      · exact .inr (by omega)
      · rw [s1] at p1
        cases p1
        rw [hsz] at p2
        exact .inl p2
    · exact .inr (by omega)
  have hset := hS ([], .set nx (.bin .cat de (.tri .ext d off (plusE off len)))) (by simp) trivial
  have hchk := hS ([], .chk (.bin (.cmp .leq) (.un .len (.var nx)) (.int (limit te.bytes)))) (by simp) trivial
  have hchk2 : den ρ (.bin (.cmp .leq) q off) = .bool true := hS ([], .chk (.bin (.cmp .leq) q off)) (by simp) trivial
  have hext : den ρ (.tri .ext d off (plusE off len)) = .list ((rowsO.take (m + n2)).drop m) := by
    have hp := plusE_den hm hn2
    have hdO' := hdO
    simp only [den, Tr.den] at hdO'
    simp only [den, B.den, hm] at hchk2
    simp only [den, Tr.den, hm, hp]
    generalize den ρ d = u at hdO' ⊢
    generalize den ρ p = v at hdO'
    generalize den ρ q = z at hdO' hchk2
    cases u with
    | list l =>
      cases v with
      | int pp =>
        cases z with
        | int qq =>
          simp only [T.punch, T.list.injEq] at hdO'
          simp only [T.cmp, T.cmpI, T.bool.injEq, decide_eq_true_eq] at hchk2
          have h1 := punchL_ext mm l (p := pp.toNat) (q := qq.toNat) (x := m) (by omega) (m + n2)
          rw [hdO'] at h1
          simp only [T.ext]
          rw [h1]
          congr 3
        | _ => simp [T.punch] at hdO'
      | _ => simp [T.punch] at hdO'
    | _ => simp [T.punch] at hdO'
  have hd : ρ nx = .list (rows ++ (rowsO.take (m + n2)).drop m) := by
    rw [show ρ nx = _ from hset]; simp only [den, B.den, e2]
    have := hext
    simp only [den, Tr.den] at this
    rw [show Tr.den .ext (den ρ d) (den ρ off) (den ρ (plusE off len)) = _ from this]; rfl
  have hn := e3.header.1
  have hln : ((rowsO.take (m + n2)).drop m).length = n2 := s2.len
  have hlenE : den ρ (.un .len (.var nx)) = .int ((n + n2 : Nat) : Int) := by
    simp only [den, U.den, hd, T.len, List.length_append, hn, hln]
  have hle := den_leq hchk hlenE rfl
  have hlim : (n + n2) * te.bytes ≤ 140737488355328 := by
    have : n + n2 ≤ limit te.bytes := by omega
    unfold limit at this
    have h3 := Nat.mul_le_mul_right te.bytes this
    have h4 := Nat.div_mul_le_self 140737488355328 te.bytes
    omega
  have hms : ∀ p ∈ ms ++ [o], ∃ g et d, Γ.obj p = some (g, .row true et d) ∧ holdsG ρ g := fun p hp => (List.mem_append.1 hp).elim (e5 p) fun hp => by
    simp only [List.mem_singleton] at hp
    subst hp; exact ⟨_, _, _, hob, trivial⟩
  have hFO : Disj F (C.F o) := by
    intro b x h1 h2
    obtain ⟨p, hp, hf1⟩ := e4 b x h1
    obtain ⟨g, et', d', r1, r2⟩ := e5 p hp
    exact h.dis p o g [] _ _ r1 hob r2 trivial (fun e => d2 (e ▸ hp)) rfl rfl b x hf1 h2
  have hdj : ∀ i j, i < n2 → j < te.size → Disj F (Fs i j) := fun i j hi hj => hFO.sub (Sub.refl _) (s5 i j hi hj).1
  obtain ⟨a', c', w', F', r1, r2, r3, r4, _⟩ := run_append (P := P) (ty := ty) hT hti htd hti2 htd2 hte hk0 hb0 e3 ha2 s2 hdj hlim
  have h1 := h.turnedDel (ms := ms ++ [o]) (fun p hp => by obtain ⟨g, et', d', q1, q2⟩ := hms p hp; exact ⟨g, _, q1, q2, rfl⟩) r2 fun b x hf => by
    obtain ⟨p, hp, hf'⟩ := e4 b x hf
    exact ⟨p, List.mem_append.2 (.inl hp), hf'⟩
  have hpost := Post.ofD2 (G := []) (nx := nx) (no := no) (sis := [([], .set nx (.bin .cat de (.tri .ext d off (plusE off len)))), ([], .chk (.bin (.cmp .leq) (.un .len (.var nx)) (.int (limit te.bytes)))), ([], .chk (.bin (.cmp .leq) q off))]) h hms h1 hte r3 (fun b x hf => by
    rcases r4 b x hf with hf | hf | ⟨i, j, hi, hj, hf⟩
    · obtain ⟨p, hp, hf'⟩ := e4 b x hf
      exact .inr ⟨p, List.mem_append.2 (.inl hp), hf'⟩
    · exact .inl hf
    · exact .inr ⟨o, by simp, (s5 i j hi hj).1 b x hf⟩) (hf no (Nat.le_refl _) (Nat.lt_succ_self _)) (hfx nx (Nat.le_refl _) (Nat.lt_succ_self _)) hd hlenE
  unfold Yield
  simp only [execOp, resolve, invoke, builtin, Sem.run_bind, Sem.run_pure, Result.andThen_ok, List.map_toArray, List.map_cons, List.map_nil, e1, hvy]
  rw [r1]
  exact ⟨_, _, rfl, hpost⟩
end
end Gp
