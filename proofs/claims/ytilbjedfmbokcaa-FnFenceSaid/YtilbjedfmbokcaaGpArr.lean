/- Gp: array variables in memory, of plain elements: a row of a fixed length, made, written whole, its elements' addresses. -/
import Derived.Test.YtilbjedfmbokcaaGpMap
set_option linter.unusedVariables false
set_option linter.unusedSimpArgs false
namespace Gp
open Go
section
variable {tab : Tab} {Γ : Gam} {ρ : Env} {tm : Array Value} {w w' : World} {C : Ctx} {kn : Kn} {Wr : CS} {w0 : World} {P : Program} {I : Nat → List T → List T → Prop} {G : Grd} {nx no : Nat}

def scalCk : CK → Bool
  | .int _ | .bool | .str => true
  | _ => false
def scalZ : CK → Exp
  | .int _ => .int 0
  | .bool => .bool false
  | .str => .str []
  | _ => .nil
theorem scalZ_sound {ck : CK} {v : Value} (hs : scalCk ck = true) (hz : zeroIs ck v = true) (w : World) (ρ : Env) : DRel tab w true ck v (den ρ (scalZ ck)) Emp := by
  cases ck with
  | int k =>
    cases v <;> simp [zeroIs] at hz
    obtain ⟨rfl, rfl⟩ := hz
    exact .int
  | bool =>
    cases v <;> simp [zeroIs] at hz
    subst hz; exact .bool
  | str =>
    cases v with
    | string s =>
      have hs : s.data.size = 0 := by simpa only [zeroIs, beq_iff_eq] using hz
      have hd : s.data = #[] := Array.eq_empty_of_size_eq_zero hs
      cases s with
      | mk d => simp only at hd; subst hd; exact .str
    | _ => simp [zeroIs] at hz
  | _ => cases hs
theorem und_array (hT : TabOk P tab) {t e : TypeId} {n : Nat} {ti : TI} (h : tab.get t = some ti) (hd : ti.td = .array n e) : P.underlying t = some (.array n e) := by
  obtain ⟨d, h1, h2, _⟩ := und_of hT h
  rw [hd] at h2
  cases d <;> simp [tdChk] at h2
  obtain ⟨rfl, rfl⟩ := h2; exact h1
/-- An array of plain elements: how many, of what type, of what kind. -/
def arrOf (tab : Tab) (t : TypeId) : Option (Nat × TypeId × CK) :=
  match tab.get t with
  | some ti => match ti.td with
    | .array n e => match tab.get e with
      | some te => match te.cks with
        | [ck] => if scalCk ck && Nat.beq te.size 1 && Nat.beq ti.size n && Nat.blt 0 n && decide (ti.cks = List.replicate n ck) then some (n, e, ck) else none
        | _ => none
      | none => none
    | _ => none
  | none => none
theorem arrOf_sound {t e : TypeId} {n : Nat} {ck : CK} (h : arrOf tab t = some (n, e, ck)) : ∃ ti te, tab.get t = some ti ∧ ti.td = .array n e ∧ tab.get e = some te ∧ te.cks = [ck] ∧ te.size = 1 ∧ ti.size = n ∧ 0 < n ∧ ti.cks = List.replicate n ck ∧ scalCk ck = true := by
  unfold arrOf at h
  split at h
  case h_2 => cases h
  rename_i ti hti
  split at h
  case h_2 => cases h
  rename_i n' e' htd
  split at h
  case h_2 => cases h
  rename_i te hte
  split at h
  case h_2 => cases h
  rename_i ck' hck
  split at h
  case isFalse => cases h
  rename_i hc
  simp only [Bool.and_eq_true, decide_eq_true_eq] at hc
  obtain ⟨⟨⟨⟨c1, c2⟩, c3⟩, c4⟩, c5⟩ := hc
  cases h
  exact ⟨ti, te, hti, htd, hte, hck, Nat.eq_of_beq_eq_true c2, Nat.eq_of_beq_eq_true c3, Nat.le_of_ble_eq_true c4, c5, c1⟩

def anAllocA (tab : Tab) (G : Grd) (nx no : Nat) (t : TypeId) : Option Res :=
  match arrOf tab t with
  | some (n, e, ck) => some ⟨.s (.one (.pe no e (.int 0) 0)), [(no, some (G, .row true e (.var nx)))], [(G, .set nx (.bin .rep (.int n) (scalZ ck)))], nx + 1, no + 1⟩
  | none => none
theorem anAllocA_sound (hT : TabOk P tab) (h : Rel tab Γ ρ tm w C kn Wr w0) (hG : holdsG ρ G) {t : TypeId} {r : Res} (hr : anAllocA tab G nx no t = some r) (hS : HoldsS I ρ r.sis) (hf : ∀ o, no ≤ o → o < r.no → ¬ kn.o o) (hfx : ∀ x, nx ≤ x → x < r.nx → ¬ kn.v x) {ds : List Deferred}
    {dst : Option Tmp} {ty : TypeId} {pos : String} {aft : Array Edge} {gd : Option (Nat × Bool)} :
    Yield P (execOp (Act.eval ⟨tm, ds⟩) ⟨dst, .alloc t, ty, pos, aft, gd⟩) w fun v w' => Post tab Γ ρ tm C kn Wr w0 nx no r v w' := by
  unfold anAllocA at hr
  split at hr
  case h_2 => cases hr
  rename_i n e ck ha
  cases hr
  obtain ⟨ti, te, hti, htd, hte, hck, hk1, hsn, hn0, hcks, hsc⟩ := arrOf_sound ha
  have hset := hS (G, .set nx (.bin .rep (.int n) (scalZ ck))) (by simp) hG
  obtain ⟨z, hz, hzs, _⟩ := run_zeroValue (w := w) hT hti
  obtain ⟨z1, z2⟩ := zerosAre_get hzs
  have hzc : z.cells.size = n := by rw [← Array.length_toList, z1, hcks, List.length_replicate]
  have hd : ρ nx = .list (List.replicate n (den ρ (scalZ ck))) := by
    rw [show ρ nx = _ from hset]
    simp only [den, B.den, T.rep, Int.toNat_natCast]
  have hsz : te.size = te.cks.length := (hT e te hte).len
  have hcell : ∀ x, x < n → ∃ v, z.cells[x]? = some v ∧ zeroIs ck v = true := by
    intro x hx
    obtain ⟨v, h1, h2⟩ := z2 x ck (by rw [hcks, List.getElem?_replicate, if_pos hx])
    exact ⟨v, by simpa using h1, h2⟩
  have hD : DRel tab (w.alloc (.cells z.cells t)) true (.sl e) (.slice (some ⟨w.heap.size, 0, none⟩) n n) (.list (List.replicate n (den ρ (scalZ ck)))) (rowF w.heap.size 0 n n te.size fun _ _ => Emp) := by
    refine .sl (b := w.heap.size) (off := 0) (vs := fun i _ => (z.cells[i]?).getD undef) (Fs := fun _ _ => Emp) hte hsz (by simp) (Nat.le_refl _) (.inl rfl) ?_ ?_ ?_ ?_ (fun _ _ _ _ _ _ _ _ _ _ _ _ h => h.elim) (fun _ _ _ _ _ _ _ _ h => h.elim) rfl
    · intro hk; exact absurd hk1 hk
    · intro i j hi hj
      obtain ⟨v, hv, _⟩ := hcell i hi
      have hj0 : j = 0 := by omega
      subst hj0
      rw [cellAt_new, hk1, Nat.mul_one, Nat.zero_add, Nat.add_zero, hv]; rfl
    · intro i j ck' hi hcj
      rw [hck] at hcj
      have hj0 : j = 0 := by
        cases j with
        | zero => rfl
        | succ j => simp at hcj
      subst hj0
      simp at hcj; subst hcj
      obtain ⟨v, hv, hzv⟩ := hcell i hi
      have hct : cellT te.size (List.replicate n (den ρ (scalZ ck))) i 0 = den ρ (scalZ ck) := by
        unfold cellT
        rw [if_pos hk1, List.getD_eq_getElem?_getD, List.getElem?_replicate, if_pos hi]; rfl
      show DRel tab _ true ck ((z.cells[i]?).getD undef) (cellT te.size _ i 0) Emp
      rw [hv, hct]
      exact scalZ_sound hsc hzv _ _
    · intro _ x hx
      rw [hk1, Nat.mul_one] at hx
      obtain ⟨v, hv, _⟩ := hcell x hx
      exact ⟨v, by rw [cellAt_new, Nat.zero_add, hv], frozenAt_new ..⟩
  have hno : ¬ kn.o no := hf no (Nat.le_refl _) (Nat.lt_succ_self _)
  have hnx : ¬ kn.v nx := hfx nx (Nat.le_refl _) (Nat.lt_succ_self _)
  have hrel := h.newRow (G := G) (ms := []) (Grows.push w _) (fun o ho => by simp at ho) hD (fun b x hf => by
    rcases hf with ⟨rfl, _, _⟩ | ⟨_, _, _, _, hf⟩
    · exact .inl (Nat.le_refl _)
    · exact hf.elim) hno hnx hd
  unfold Yield
  simp only [execOp, Instr.alloc, Sem.run_bind, hz, Result.andThen_ok, newVar, newRow, run_newObj, Sem.run_pure]
  refine ⟨_, _, rfl, _, _, hrel, ?_, Ext.set hno ⟨fun o ho => .inl ho, fun y hy => .inl hy⟩, ?_, ?_⟩
  · refine ⟨⟨.inr rfl, 0, w.heap.size, 0, rfl, ?_, Ctx.set_self.1, by simp⟩, fun cs => by simp⟩
    rw [Ctx.set_self.2.1]; exact hn0
  · intro o ho
    rcases ho with ho | ho
    · exact .inl ho
    · exact .inr ⟨by omega, by simp only; omega⟩
  · intro y hy
    rcases hy with hy | hy
    · exact .inl hy
    · exact .inr ⟨by omega, by simp only; omega⟩

/-- An array without parts. -/
def anBuildA (tab : Tab) (nx no : Nat) (t : TypeId) (parts : Array (Nat × Operand)) : Option Res :=
  match tab.get t with
  | some ti => match ti.td with
    | .array n e => if parts.toList.isEmpty && (tab.get e).isSome then some ⟨.s (.agg (ti.cks.map zeroLeaf)), [], [], nx, no⟩ else none
    | _ => none
  | none => none
theorem anBuildA_sound (hT : TabOk P tab) (h : Rel tab Γ ρ tm w C kn Wr w0) {t : TypeId} {parts : Array (Nat × Operand)} {r : Res} (hr : anBuildA tab nx no t parts = some r) {ds : List Deferred}
    {dst : Option Tmp} {ty : TypeId} {pos : String} {aft : Array Edge} {gd : Option (Nat × Bool)} :
    Yield P (execOp (Act.eval ⟨tm, ds⟩) ⟨dst, .build t parts, ty, pos, aft, gd⟩) w fun v w' => Post tab Γ ρ tm C kn Wr w0 nx no r v w' := by
  unfold anBuildA at hr
  split at hr
  case h_2 => cases hr
  rename_i ti hti
  split at hr
  case h_2 => cases hr
  rename_i n e htd
  split at hr
  case isFalse => cases hr
  rename_i hc
  simp only [Bool.and_eq_true, List.isEmpty_iff] at hc
  obtain ⟨c1, c2⟩ := hc
  obtain ⟨te, hte⟩ := Option.isSome_iff_exists.1 c2
  cases hr
  obtain ⟨z, hz, hzs, _⟩ := run_zeroValue (w := w) hT hti
  have hp : parts = #[] := by
    cases parts with
    | mk l => simp only at c1; subst c1; rfl
  subst hp
  have hfill : ∀ pl, Instr.fill pl z.cells ((#[] : Array (Nat × Operand)).map fun (i, x) => (i, Act.eval ⟨tm, ds⟩ x)).toList = some z.cells := fun pl => by simp [Instr.fill]
  unfold Yield
  simp only [execOp, Instr.build, Sem.run_bind, hz, Result.andThen_ok, underlying, run_program, und_array hT hti htd, Sem.run_pure, run_sizeOf hT hte, hfill]
  exact ⟨_, _, rfl, Post.pure h rfl ⟨_, rfl, zeros_sound hzs⟩⟩

def anIndexAddrA (tab : Tab) (Γ : Gam) (G : Grd) (nx no : Nat) (t : TypeId) (x i : Operand) : Option Res :=
  match opd Γ G x, opd Γ G i, tab.get t with
  | some (.s (.one (.pe o et (.int 0) 0))), some (.s (.one (.int _ ie))), some ti => match ti.td, Γ.obj o with
    | .array n e, some ([], .row true et' d) => if Nat.beq e et && (tab.get et).isSome then
        some ⟨.s (.one (.pe o et ie 0)), [], [(G, .chk (inB ie (.int n))), (G, .chk (inB ie (.un .len d)))], nx, no⟩ else none
    | _, _ => none
  | _, _, _ => none
theorem anIndexAddrA_sound (hT : TabOk P tab) (h : Rel tab Γ ρ tm w C kn Wr w0) (hG : holdsG ρ G) {t : TypeId} {x i : Operand} {r : Res} (hr : anIndexAddrA tab Γ G nx no t x i = some r) (hS : HoldsS I ρ r.sis) {ds : List Deferred}
    {dst : Option Tmp} {ty : TypeId} {pos : String} {aft : Array Edge} {gd : Option (Nat × Bool)} :
    Yield P (execOp (Act.eval ⟨tm, ds⟩) ⟨dst, .indexAddr t x i, ty, pos, aft, gd⟩) w fun v w' => Post tab Γ ρ tm C kn Wr w0 nx no r v w' := by
  unfold anIndexAddrA at hr
  split at hr
  case h_2 => cases hr
  rename_i o et k ie ti hx hi hti
  split at hr
  case h_2 => cases hr
  rename_i n e et' d htd hob
  split at hr
  case isFalse => cases hr
  rename_i hc
  simp only [Bool.and_eq_true, Option.isSome_iff_exists] at hc
  obtain ⟨he, te, hte⟩ := hc
  have he := Nat.eq_of_beq_eq_true he
  subst he
  cases hr
  obtain ⟨⟨hk, m, b, base, hm, hmN, hA, hv⟩, _⟩ := opd_sound h hG hx (ds := ds)
  obtain ⟨q, hq, hvq⟩ := one_int (opd_sound h hG hi (ds := ds))
  have hb1 := inB_sound (hS (G, .chk (inB ie (.int n))) (by simp) hG) hq (show den ρ (.int n) = .int (n : Int) from rfl)
  obtain ⟨rows, hrows, hD⟩ := (h.obs o [] _ hob).2.2 trivial
  have hN := hD.header.1
  have hb2 := inB_sound (hS (G, .chk (inB ie (.un .len d))) (by simp) hG) hq (show den ρ (.un .len d) = .int (rows.length : Int) by simp only [den, U.den, hrows, T.len])
  have hm0 : m = 0 := by
    have : (T.int 0) = .int m := hm
    simp only [T.int.injEq] at this; omega
  subst hm0
  obtain ⟨p, rfl⟩ : ∃ p : Nat, q = p := ⟨q.toNat, by omega⟩
  have hsz : tab.sz e = te.size := by simp [Tab.sz, hte]
  unfold Yield
  simp only [execOp, hv, hvq, Instr.indexAt, asIntOf, underlying, Sem.run_bind, run_program, Result.andThen_ok, und_array hT hti htd, Sem.run_pure, Instr.sureAddr]
  rw [if_pos (by omega)]
  simp only [Sem.run_bind, run_sizeOf hT hte, Result.andThen_ok, Sem.run_pure, add_addr, Int.toNat_natCast]
  refine ⟨_, _, rfl, Post.pure h rfl ⟨⟨hk, p, b, base, hq, by omega, hA, ?_⟩, fun cs => by simp⟩⟩
  rw [hsz]; simp

/-- An array variable written whole. -/
def anStoreA (tab : Tab) (Γ : Gam) (G : Grd) (nx no : Nat) (t : TypeId) (a v : Operand) : Option Res :=
  match opd Γ G a, (opd Γ G v).bind leavesOf, arrOf tab t with
  | some (.s (.one (.pe o et (.int 0) 0))), some ls, some (n, e, ck) => match Γ.obj o with
    | some ([], .row true et' d) =>
      if G.isEmpty && Nat.beq e et && Nat.beq et et' && Nat.beq ls.length n then
        match dataLeaves tab Γ G (List.replicate n ck) ls with
        | some (es, []) => some ⟨.s (.one .dead), [(o, some ([], .row true et (.var nx)))], [([], .chk (.bin (.cmp .eql) (.un .len d) (.int n))), ([], .set nx (listE es))], nx + 1, no⟩
        | _ => none
      else none
    | _ => none
  | _, _, _ => none
theorem anStoreA_sound (hT : TabOk P tab) (h : Rel tab Γ ρ tm w C kn Wr w0) (hG : holdsG ρ G) {t : TypeId} {a v : Operand} {r : Res} (hr : anStoreA tab Γ G nx no t a v = some r) (hS : HoldsS I ρ r.sis)
    (hfx : ∀ x, nx ≤ x → x < r.nx → ¬ kn.v x) {ds : List Deferred}
    {dst : Option Tmp} {ty : TypeId} {pos : String} {aft : Array Edge} {gd : Option (Nat × Bool)} :
    Done P ⟨dst, .store t a v, ty, pos, aft, gd⟩ ⟨tm, ds⟩ w fun v w' => Post tab Γ ρ tm C kn Wr w0 nx no r v w' := by
  unfold anStoreA at hr
  split at hr
  case h_2 => cases hr
  rename_i o et ls n e ck ha hv hao
  split at hr
  case h_2 => cases hr
  rename_i et' d ho
  split at hr
  case isFalse => cases hr
  rename_i hc
  simp only [Bool.and_eq_true, List.isEmpty_iff] at hc
  obtain ⟨⟨⟨c1, c2⟩, c3⟩, c4⟩ := hc
  subst c1
  have c2 := Nat.eq_of_beq_eq_true c2
  have c3 := Nat.eq_of_beq_eq_true c3
  have c4 := Nat.eq_of_beq_eq_true c4
  subst c2 c3
  split at hr
  case h_2 => cases hr
  rename_i es hds
  cases hr
  obtain ⟨ti, te, hti, htd, hte, hck, hk1, hsn, hn0, hcks, hsc⟩ := arrOf_sound hao
  have hchk := hS ([], .chk (.bin (.cmp .eql) (.un .len d) (.int n))) (by simp) trivial
  have hset := hS ([], .set nx (listE es)) (by simp) trivial
  obtain ⟨⟨hk, m, b, base, hi, hm, hA, hva⟩, _⟩ := opd_sound h hG ha (ds := ds)
  have hm0 : m = 0 := by
    have : (T.int 0) = .int m := hi
    simp only [T.int.injEq] at this; omega
  subst hm0
  have hva : Act.eval ⟨tm, ds⟩ a = .pointer (some ⟨b, base, none⟩) := by rw [hva]; simp
  have hsz : te.size = te.cks.length := (hT e te hte).len
  cases hx : opd Γ [] v with
  | none => rw [hx] at hv; cases hv
  | some sv =>
    rw [hx] at hv
    obtain ⟨l1, l2⟩ := leavesOf_sound hv (opd_sound h hG hx (ds := ds))
    obtain ⟨rows, hd, hD⟩ := (h.obs o [] _ ho).2.2 trivial
    rw [hA] at hD
    have hN := hD.header.1
    have hNK := hD.header.2.1
    have hrn : rows.length = n := by
      have hb : den ρ (.bin (.cmp .eql) (.un .len d) (.int n)) = .bool true := hchk
      have : (rows.length : Int) = n := by simpa [den, B.den, U.den, T.cmp, T.cmpI, T.len, hd] using hb
      omega
    obtain ⟨Fs, mv, r1, r2, r3, r4, r5, r6, r7⟩ := dataLeaves_sound hT h hG hds (vs := (Act.eval ⟨tm, ds⟩ v).cells.toList) (by simpa using l1) (fun q l hq => by
      obtain ⟨u, hu, hr⟩ := l2 q l hq
      exact ⟨u, by simpa using hu, hr⟩)
    rw [List.length_replicate] at r1
    have hmv : ∀ q, Fs q = Emp := by
      intro q
      cases hq : mv q with
      | none => exact r4 q hq
      | some o' => exact absurd (r5 q o' hq).1 (by simp)
    have hcell : ∀ q, q < n → ∃ v' e, (Act.eval ⟨tm, ds⟩ v).cells[q]? = some v' ∧ es[q]? = some e ∧ DRel tab w true ck v' (den ρ e) Emp ∧ v'.oneCell' = true := by
      intro q hq
      obtain ⟨l, hl⟩ : ∃ l, ls[q]? = some l := ⟨_, List.getElem?_eq_getElem (by omega)⟩
      obtain ⟨u, hu, _⟩ := l2 q l hl
      obtain ⟨e, he⟩ : ∃ e, es[q]? = some e := ⟨_, List.getElem?_eq_getElem (by omega)⟩
      have := r3 q ck u e (by rw [List.getElem?_replicate, if_pos hq]) (by simpa using hu) he
      rw [hmv q] at this
      exact ⟨u, e, hu, he, this⟩
    have hone : ∀ u ∈ (Act.eval ⟨tm, ds⟩ v).cells.toList, u.oneCell' = true := by
      intro u hu
      obtain ⟨q, hq⟩ := List.mem_iff_getElem?.1 hu
      have hq' : q < n := by have := List.getD_some_lt hq; simp at this; omega
      obtain ⟨v', e, hv', _, _, h1⟩ := hcell q hq'
      have : v' = u := by rw [← Array.getElem?_toList, hq] at hv'; cases hv'; rfl
      subst this; exact h1
    have hownF : (∀ x, x < C.K o → ∃ v, cellAt w b (base + x) = some v ∧ frozenAt w b (base + x) = false) ∧ ∀ x, x < C.K o → C.F o b (base + x) := by
      cases hD with
      | @sl et ti' rows _ n c b' off vs Fs F hti' hsz' hn hc ha hwf hcell hrel hown hdis hdr hF =>
        rw [hte] at hti'; cases hti'
        rcases ha with ha | ha
        · cases ha
          refine ⟨fun x hx => hown rfl x (by rw [hk1]; omega), fun x hx => ?_⟩
          rw [hF]; exact .inl ⟨rfl, by omega, by simp [hk1]; omega⟩
        · exact ⟨fun x hx => by omega, fun x hx => by omega⟩
    have hvl : (Act.eval ⟨tm, ds⟩ v).cells.size = n := by rw [l1]; exact c4
    obtain ⟨w', s1, s2, s3, s4, s5⟩ := run_storeVar (P := P) (w := w) hT hti (b := b) (o := base) (v := Act.eval ⟨tm, ds⟩ v) (by rw [hvl]; omega) hone (fun x hx => hownF.1 x (by omega))
    rw [hvl] at s2 s4
    have hturn : Turned (C.F o) w w' := by
      refine ⟨s2.size, fun b' hb hn' => s2.blk b' hb fun x hx => hn' x ?_, fun b' x hb hn' => s2.cel b' x hb fun hx => hn' ?_, s2.os, s2.tape, s2.output⟩
      · obtain ⟨rfl, y1, y2⟩ := hx
        have := hownF.2 (x - base) (by omega)
        rwa [show base + (x - base) = x by omega] at this
      · obtain ⟨rfl, y1, y2⟩ := hx
        have := hownF.2 (x - base) (by omega)
        rwa [show base + (x - base) = x by omega] at this
    have hd' : ρ nx = .list (es.map (den ρ)) := by
      rw [show ρ nx = _ from hset, listE_den]
    have hD' : DRel tab w' true (.sl e) (.slice (some ⟨b, base, none⟩) (C.N o) (C.K o)) (.list (es.map (den ρ))) (rowF b base (C.K o) n te.size fun _ _ => Emp) := by
      refine .sl (b := b) (off := base) (vs := fun i _ => ((Act.eval ⟨tm, ds⟩ v).cells[i]?).getD undef) (Fs := fun _ _ => Emp) hte hsz (by rw [List.length_map]; omega) hNK (.inl rfl) ?_ ?_ ?_ ?_ (fun _ _ _ _ _ _ _ _ _ _ _ _ h => h.elim) (fun _ _ _ _ _ _ _ _ h => h.elim) ?_
      · intro hk; exact absurd hk1 hk
      · intro i j hi hj
        obtain ⟨v', e', hv', _⟩ := hcell i (by omega)
        have hj0 : j = 0 := by omega
        subst hj0
        rw [hk1, Nat.mul_one, Nat.add_zero, s3 i v' hv', hv']; rfl
      · intro i j ck' hi hcj
        rw [hck] at hcj
        have hj0 : j = 0 := by
          cases j with
          | zero => rfl
          | succ j => simp at hcj
        subst hj0
        simp at hcj; subst hcj
        obtain ⟨v', e', hv', he', hrel', _⟩ := hcell i (by omega)
        have hct : cellT te.size (es.map (den ρ)) i 0 = den ρ e' := by
          unfold cellT
          rw [if_pos hk1, List.getD_eq_getElem?_getD, List.getElem?_map, he']; rfl
        show DRel tab _ true ck (((Act.eval ⟨tm, ds⟩ v).cells[i]?).getD undef) (cellT te.size _ i 0) Emp
        rw [hv', hct]
        exact hrel'.frame fun _ _ hf => hf.elim
      · intro _ x hx
        rw [hk1, Nat.mul_one] at hx
        obtain ⟨v', q1, q2⟩ := hownF.1 x hx
        by_cases hxn : x < n
        · obtain ⟨v2, e', hv', _⟩ := hcell x hxn
          exact ⟨v2, s3 x v2 hv', by rw [s5]; exact q2⟩
        · exact ⟨v', by rw [s4 b (base + x) (by omega)]; exact q1, by rw [s5]; exact q2⟩
      · rw [show C.N o = n by omega]; rfl
    have hFs : ∀ b' y, rowF b base (C.K o) n te.size (fun _ _ => Emp) b' y → C.F o b' y := by
      rintro b' y (⟨rfl, y1, y2⟩ | ⟨_, _, _, _, hf⟩)
      · rw [hk1, Nat.mul_one] at y2
        have := hownF.2 (y - base) (by omega)
        rwa [show base + (y - base) = y by omega] at this
      · exact hf.elim
    have hrel := h.upd (ob' := .row true e (.var nx)) (F' := rowF b base (C.K o) n te.size fun _ _ => Emp) (kn' := kn.addV nx) ho trivial rfl hturn (Kn.le_addV kn nx) ⟨nx, rfl, .inr rfl⟩ (fun et' x e => by cases e; exact hfx nx (Nat.le_refl _) (Nat.lt_succ_self _)) ?_ ?_ ?_
    · refine Done.skip (w' := w') ?_ ⟨_, kn.addV nx, hrel, ⟨trivial, fun cs => by simp [undef]⟩, Ext.upd (Kn.le_addV kn nx), fun _ => .inl, fun x hx => hx.imp id fun e => ⟨by omega, by simp only; omega⟩⟩
      simp only [execOp, hva, Sem.run_bind, s1, Result.andThen_ok, Sem.run_pure]
    · refine ⟨_, hd', ?_⟩
      rw [Ctx.set_self.1, Ctx.set_self.2.1, Ctx.set_self.2.2.1, Ctx.set_self.2.2.2, hA]
      exact hD'
    · intro o' g' ob'' hne ho' hg' hv' b' y hf hf'
      exact h.dis o o' [] g' _ ob'' ho ho' trivial hg' (Ne.symm hne) rfl hv' b' y (hFs b' y hf) hf'
    · intro b' y hf
      exact h.own o [] _ ho trivial rfl b' y (hFs b' y hf)
end
end Gp
