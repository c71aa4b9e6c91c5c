/- Gp, part 17: stores; the greater and the lesser. -/
import Derived.Test.YtbifjnccebhmkaaGpOp11
set_option linter.unusedVariables false
set_option linter.unusedSimpArgs false
namespace Gp
open Go
section
variable {tab : Tab} {Γ : Gam} {ρ : Env} {tm : Array Value} {w w' : World} {C : Ctx} {kn : Kn} {Wr : CS} {w0 : World} {P : Program} {I : Nat → List T → List T → Prop} {G : Grd} {nx no : Nat}

/-- The operation is done, and goes on from what it leaves. -/
def Done (P : Program) (o : Oper) (a : Act) (w : World) (Q : Value → World → Prop) : Prop :=
  ∀ (next : Act → World → Prop) (QQ : Exit → Act → World → Prop), (∀ v w', Q v w' → next (a.put o.dst v) w') → o.wp P a w next QQ
theorem Yield.done {o : Oper} {a : Act} {Q : Value → World → Prop} (h : Yield P (execOp a.eval o) w Q) : Done P o a w Q := by
  obtain ⟨v, w', h1, h2⟩ := h
  intro next QQ k
  unfold Oper.wp
  rw [h1]
  exact k v w' h2
theorem Done.skip {o : Oper} {a : Act} {Q : Value → World → Prop} {w' : World} (h1 : (execOp a.eval o).run P w = .ok .skip w') (h2 : Q undef w') : Done P o a w Q := by
  intro next QQ k
  unfold Oper.wp
  rw [h1]
  exact k undef w' h2

def setCs (r : Exp) (j : Nat) : List Exp → Exp
  | [] => r
  | e :: es => setCs (.bin (.setC j) r e) (j + 1) es
theorem setCs_den : ∀ (es : List Exp) (r : Exp) (j : Nat) (l : List T), den ρ r = .list l → j + es.length ≤ l.length →
    ∃ l', den ρ (setCs r j es) = .list l' ∧ l'.length = l.length ∧ ∀ q : Nat, l'[q]? = if j ≤ q ∧ q < j + es.length then (es[q - j]?).map (den ρ) else l[q]?
  | [], r, j, l, h, _ => ⟨l, h, rfl, fun q => by rw [if_neg (by simp only [List.length_nil]; omega)]⟩
  | e :: es, r, j, l, h, hl => by
    simp only [List.length_cons] at hl
    obtain ⟨l', h1, h2, h3⟩ := setCs_den es (.bin (.setC j) r e) (j + 1) (l.set j (den ρ e)) (by simp only [den, B.den, h, T.setC]) (by simp; omega)
    refine ⟨l', h1, by simp [h2], fun q => ?_⟩
    rw [h3 q]
    by_cases e1 : q = j
    · subst e1
      rw [if_neg (by omega), if_pos ⟨by omega, by simp⟩, List.getElem?_set_self (by omega)]
      simp
    · by_cases e2 : j ≤ q ∧ q < j + (es.length + 1)
      · rw [if_pos (by omega), if_pos (by simpa using e2)]
        obtain ⟨p, rfl⟩ : ∃ p, q = j + 1 + p := ⟨q - (j + 1), by omega⟩
        rw [show j + 1 + p - (j + 1) = p by omega, show j + 1 + p - j = p + 1 by omega]
        simp
      · rw [if_neg (by omega), if_neg (by simpa using e2), List.getElem?_set_ne (by omega)]

def anStore (tab : Tab) (Γ : Gam) (G : Grd) (nx no : Nat) (t : TypeId) (a v : Operand) : Option Res :=
  match opd Γ G a, (opd Γ G v).bind leavesOf, tab.get t with
  | some (.s (.one (.pb o j))), some ls, some ti =>
    match Γ.obj o with
    | some ([], .box true cells) =>
      if G.isEmpty && Nat.beq ls.length ti.size && Nat.ble (j + ls.length) cells.length && ls.all (fun l => l != .dead) then
        some ⟨.s (.one .dead), [(o, some ([], .box true (cells.take j ++ ls ++ cells.drop (j + ls.length))))], [], nx, no⟩
      else none
    | _ => none
  | some (.s (.one (.pe o et i j))), some ls, some ti =>
    match Γ.obj o, tab.get et with
    | some ([], .row true et' d), some te =>
      if G.isEmpty && Nat.beq et et' && Nat.beq ls.length ti.size && Nat.ble (j + ls.length) te.size && Nat.blt 0 ls.length then
        match dataLeaves tab Γ G ((te.cks.drop j).take ls.length) ls with
        | some (es, ms) => if ms.contains o then none else
            some ⟨.s (.one .dead), dels ms ++ [(o, some ([], .row true et (.var nx)))], [([], .set nx (.tri .setI d i (if Nat.beq ls.length te.size then rowE te.size es else setCs (.bin .idx d i) j es)))], nx + 1, no⟩
        | none => none
      else none
    | _, _ => none
  | _, _, _ => none

theorem run_storeVar (hT : TabOk P tab) {t : TypeId} {ti : TI} (hti : tab.get t = some ti) {b o : Nat} {v : Value} (hsz : v.cells.size = ti.size) (h1 : ∀ u ∈ v.cells.toList, u.oneCell' = true)
    (hc : ∀ x, x < v.cells.size → ∃ u, cellAt w b (o + x) = some u ∧ frozenAt w b (o + x) = false) :
    ∃ w', (Instr.storeAt t (.pointer (some ⟨b, o, none⟩)) v).run P w = .ok () w' ∧ Turned (Rng b o v.cells.size) w w' ∧ (∀ (x : Nat) u, v.cells[x]? = some u → cellAt w' b (o + x) = some u) ∧
      (∀ b' o', ¬ (b' = b ∧ o ≤ o' ∧ o' < o + v.cells.size) → cellAt w' b' o' = cellAt w b' o') ∧ (∀ b' o', frozenAt w' b' o' = frozenAt w b' o') := by
  obtain ⟨w', s1, s2, s3, s4, s5, _⟩ := run_storeCells_cells (P := P) (b := b) (o := o) v.cells.toList 0 w h1 (by simpa using hc)
  refine ⟨w', ?_, by simpa using s2, fun x u hx => ?_, fun b' o' hn => ?_, s5⟩
  · simp only [Instr.storeAt, Instr.sureAddr, storeVar, Sem.run_bind, Sem.run_pure, Result.andThen_ok, run_sizeOf hT hti, Sem.run_ite]
    rw [if_neg (by simp [hsz])]
    exact s1
  · have := s3 x u (by simpa using hx)
    simpa using this
  · exact s4 b' o' (by simpa using hn)

theorem anStore_sound (hT : TabOk P tab) (h : Rel tab Γ ρ tm w C kn Wr w0) (hG : holdsG ρ G) {t : TypeId} {a v : Operand} {r : Res} (hr : anStore tab Γ G nx no t a v = some r) (hS : HoldsS I ρ r.sis)
    (hfx : ∀ x, nx ≤ x → x < r.nx → ¬ kn.v x) {ds : List Deferred}
    {dst : Option Tmp} {ty : TypeId} {pos : String} {aft : Array Edge} {gd : Option (Nat × Bool)} :
    Done P ⟨dst, .store t a v, ty, pos, aft, gd⟩ ⟨tm, ds⟩ w fun v w' => Post tab Γ ρ tm C kn Wr w0 nx no r v w' := by
  unfold anStore at hr
  split at hr
  · rename_i o j ls ti ha hv hti
    split at hr
    case h_2 => cases hr
    rename_i cells ho
    split at hr
    case isFalse => cases hr
    rename_i hc
    simp only [Bool.and_eq_true, List.isEmpty_iff] at hc
    obtain ⟨⟨⟨c1, c2⟩, c3⟩, c4⟩ := hc
    subst c1
    have c2 := Nat.eq_of_beq_eq_true c2
    have c3 := Nat.le_of_ble_eq_true c3
    have c4 : ∀ l ∈ ls, l ≠ .dead := by simpa using c4
    cases hr
    obtain ⟨⟨hk, b, base, hA, hva⟩, _⟩ := opd_sound h hG ha (ds := ds)
    cases hx : opd Γ [] v with
    | none => rw [hx] at hv; cases hv
    | some sv =>
      rw [hx] at hv
      have hls := leavesOf_sound hv (opd_sound h hG hx (ds := ds))
      obtain ⟨l1, l2⟩ := hls
      obtain ⟨b', base', hA', hF, hcell, hfro⟩ := (h.obs o [] _ ho).2.2 trivial
      rw [hA] at hA'; cases hA'
      have hone : ∀ u ∈ (Act.eval ⟨tm, ds⟩ v).cells.toList, u.oneCell' = true := by
        intro u hu
        obtain ⟨q, hq⟩ := List.mem_iff_getElem?.1 hu
        have hq' : q < ls.length := by have := List.getD_some_lt hq; simp at this; omega
        obtain ⟨l, hl⟩ : ∃ l, ls[q]? = some l := ⟨_, List.getElem?_eq_getElem hq'⟩
        obtain ⟨u', hu', hr'⟩ := l2 q l hl
        have : u' = u := by rw [← Array.getElem?_toList, hq] at hu'; cases hu'; rfl
        subst this
        exact hr'.oneCell (c4 l (List.mem_of_getElem? hl))
      obtain ⟨w', s1, s2, s3, s4, s5⟩ := run_storeVar (P := P) (w := w) hT hti (b := b) (o := base + j) (v := Act.eval ⟨tm, ds⟩ v) (by rw [l1, c2]) hone (fun x hx => by
        obtain ⟨u, hu, _⟩ := hcell (j + x) (cells[j + x]'(by omega)) (List.getElem?_eq_getElem (by omega))
        exact ⟨u, by rw [Nat.add_assoc]; exact hu, by rw [Nat.add_assoc]; exact hfro rfl _ (by omega)⟩)
      have hlen : (cells.take j ++ ls ++ cells.drop (j + ls.length)).length = cells.length := by simp; omega
      have hturn : Turned (C.F o) w w' := by
        refine ⟨s2.size, fun b' hb hn' => s2.blk b' hb fun x hx => hn' x ?_, fun b' x hb hn' => s2.cel b' x hb fun hx => hn' ?_, s2.os, s2.tape, s2.output⟩
        · rw [hF]; obtain ⟨rfl, y1, y2⟩ := hx; exact ⟨rfl, by omega, by omega⟩
        · rw [hF]; obtain ⟨rfl, y1, y2⟩ := hx; exact ⟨rfl, by omega, by omega⟩
      have hrel := h.upd (ob' := .box true (cells.take j ++ ls ++ cells.drop (j + ls.length))) (F' := C.F o) ho trivial rfl hturn (Kn.le.refl kn) trivial (fun et x e => by cases e) ?_ (fun o' g' ob'' hne ho' hg' hv' => h.dis o o' [] g' _ ob'' ho ho' trivial hg' (Ne.symm hne) rfl hv') (fun b x hf => h.own o [] _ ho trivial rfl b x hf)
      · refine Done.skip (w' := w') ?_ ⟨_, kn, hrel, ⟨trivial, fun cs => by simp [undef]⟩, Ext.upd (Kn.le.refl _), fun _ => .inl, fun _ => .inl⟩
        simp only [execOp, hva, Sem.run_bind, s1, Result.andThen_ok, Sem.run_pure]
      · refine ⟨b, base, by rw [Ctx.set_self.1]; exact hA, by rw [Ctx.set_self.2.2.2, hlen]; exact hF, fun q l hq => ?_, fun _ x hx => by rw [s5]; exact hfro rfl x (by omega)⟩
        have hmono : ∀ o', kn.o o' → (C.set o (C.A o) (C.N o) (C.K o) (C.F o)).A o' = C.A o' ∧ (C.set o (C.A o) (C.N o) (C.K o) (C.F o)).N o' = C.N o' ∧ (C.set o (C.A o) (C.N o) (C.K o) (C.F o)).K o' = C.K o' := by
          intro o' _
          by_cases e : o' = o
          · subst e; exact ⟨Ctx.set_self.1, Ctx.set_self.2.1, Ctx.set_self.2.2.1⟩
          · exact ⟨(Ctx.set_ne e).1, (Ctx.set_ne e).2.1, (Ctx.set_ne e).2.2.1⟩
        by_cases e : j ≤ q ∧ q < j + ls.length
        · rw [List.append_assoc, List.getElem?_append_right (by simp; omega), List.getElem?_append_left (by simp; omega)] at hq
          simp only [List.length_take] at hq
          rw [show q - min j cells.length = q - j by omega] at hq
          obtain ⟨u, hu, hr'⟩ := l2 _ l hq
          have := s3 _ u hu
          exact ⟨u, by rw [← this]; congr 1; omega, hr'.mono (fun _ => id) hmono⟩
        · have hq2 : cells[q]? = some l := by
            by_cases e2 : q < j
            · rw [List.append_assoc, List.getElem?_append_left (by simp; omega), List.getElem?_take_of_lt e2] at hq
              exact hq
            · rw [List.getElem?_append_right (by simp; omega), List.getElem?_drop] at hq
              simp only [List.length_append, List.length_take] at hq
              rw [← hq]; congr 1; omega
          obtain ⟨u, hu, hr'⟩ := hcell q l hq2
          exact ⟨u, by rw [s4 b _ (by omega)]; exact hu, hr'.mono (fun _ => id) hmono⟩
  · rename_i o et i j ls ti ha hv hti
    split at hr
    case h_2 => cases hr
    rename_i et' d te ho hte
    split at hr
    case isFalse => cases hr
    rename_i hc
    simp only [Bool.and_eq_true, List.isEmpty_iff] at hc
    obtain ⟨⟨⟨⟨c1, c2⟩, c3⟩, c4⟩, c5⟩ := hc
    subst c1
    have c2 := Nat.eq_of_beq_eq_true c2
    have c3 := Nat.eq_of_beq_eq_true c3
    have c4 := Nat.le_of_ble_eq_true c4
    have c5 : 0 < ls.length := Nat.le_of_ble_eq_true c5
    subst c2
    split at hr
    case h_2 => cases hr
    rename_i es ms hds
    split at hr
    case isTrue => cases hr
    rename_i hnm
    have hnm : o ∉ ms := by simpa using hnm
    cases hr
    obtain ⟨⟨hk, m, b, base, hi, hm, hA, hva⟩, _⟩ := opd_sound h hG ha (ds := ds)
    have hsz : te.size = te.cks.length := (hT et te hte).len
    have htsz : tab.sz et = te.size := by simp [Tab.sz, hte]
    rw [htsz] at hva
    cases hx : opd Γ [] v with
    | none => rw [hx] at hv; cases hv
    | some sv =>
      rw [hx] at hv
      have hls := leavesOf_sound hv (opd_sound h hG hx (ds := ds))
      obtain ⟨l1, l2⟩ := hls
      obtain ⟨rows, hd, hD⟩ := (h.obs o [] _ ho).2.2 trivial
      rw [hA] at hD
      have hN := hD.header.1
      obtain ⟨Fs, mv, r1, r2, r3, r4, r5, r6, r7⟩ := dataLeaves_sound hT h hG hds (vs := (Act.eval ⟨tm, ds⟩ v).cells.toList) (by simpa using l1) (fun q l hq => by
        obtain ⟨u, hu, hr⟩ := l2 q l hq
        exact ⟨u, by simpa using hu, hr⟩)
      have hckl : ((te.cks.drop j).take ls.length).length = ls.length := by simp; omega
      rw [hckl] at r1
      have hcell : ∀ q, q < ls.length → ∃ ck v' e, te.cks[j + q]? = some ck ∧ (Act.eval ⟨tm, ds⟩ v).cells[q]? = some v' ∧ es[q]? = some e ∧ DRel tab w true ck v' (den ρ e) (Fs q) ∧ v'.oneCell' = true := by
        intro q hq
        obtain ⟨ck, hck⟩ : ∃ ck, te.cks[j + q]? = some ck := ⟨_, List.getElem?_eq_getElem (by omega)⟩
        obtain ⟨l, hl⟩ : ∃ l, ls[q]? = some l := ⟨_, List.getElem?_eq_getElem hq⟩
        obtain ⟨u, hu, _⟩ := l2 q l hl
        obtain ⟨e, he⟩ : ∃ e, es[q]? = some e := ⟨_, List.getElem?_eq_getElem (by omega)⟩
        have := r3 q ck u e (by rw [List.getElem?_take_of_lt (by omega), List.getElem?_drop]; exact hck) (by simpa using hu) he
        exact ⟨ck, u, e, hck, hu, he, this⟩
      have hone : ∀ u ∈ (Act.eval ⟨tm, ds⟩ v).cells.toList, u.oneCell' = true := by
        intro u hu
        obtain ⟨q, hq⟩ := List.mem_iff_getElem?.1 hu
        have hq' : q < ls.length := by have := List.getD_some_lt hq; simp at this; omega
        obtain ⟨ck, v', e, _, hv', _, _, h1⟩ := hcell q hq'
        have : v' = u := by rw [← Array.getElem?_toList, hq] at hv'; cases hv'; rfl
        subst this; exact h1
      have hset := hS ([], .set nx (.tri .setI d i (if Nat.beq ls.length te.size then rowE te.size es else setCs (.bin .idx d i) j es))) (by simp) trivial
      -- the new row
      have hmr : m < rows.length := by omega
      obtain ⟨rt, hrt⟩ : ∃ rt, rows[m]? = some rt := ⟨_, List.getElem?_eq_getElem hmr⟩
      have hidx : den ρ (.bin .idx d i) = rt := by
        simp only [den, B.den, hd, hi, T.idx]
        rw [if_neg (by omega), Int.toNat_natCast, List.getD_eq_getElem?_getD, hrt]; rfl
      have hwf : WfRows te.size rows := by
        cases hD with
        | @sl et ti' rows _ n c b off vs Fs F hti' hsz' hn hc ha hwf hcell hrel hown hdis hdr hF =>
          rw [hte] at hti'; cases hti'; exact hwf
      have hown : ∀ x, x < C.K o * te.size → ∃ v, cellAt w b (base + x) = some v ∧ frozenAt w b (base + x) = false := by
        cases hD with
        | @sl et ti' rows _ n c b' off vs Fs F hti' hsz' hn hc ha hwf hcell hrel hown hdis hdr hF =>
          rw [hte] at hti'; cases hti'
          rcases ha with ha | ha
          · cases ha; exact hown rfl
          · rw [ha] at hc; omega
      have hNK := hD.header.2.1
      obtain ⟨nr, hnr, hnr1, hnr2, hnr3⟩ : ∃ nr, den ρ (if Nat.beq ls.length te.size then rowE te.size es else setCs (.bin .idx d i) j es) = nr ∧ (te.size ≠ 1 → ∃ l, nr = .list l ∧ l.length = te.size) ∧
          (∀ q e, q < ls.length → es[q]? = some e → (if te.size = 1 then nr else nr.cell (j + q)) = den ρ e) ∧ (∀ q, q < te.size → ¬ (j ≤ q ∧ q < j + ls.length) → (if te.size = 1 then nr else nr.cell q) = (if te.size = 1 then rt else rt.cell q)) := by
        by_cases hful : ls.length = te.size
        · rw [if_pos (by rw [hful]; exact Nat.beq_refl _)]
          have hj0 : j = 0 := by omega
          subst hj0
          refine ⟨_, rfl, fun hk1 => ?_, fun q e hq he => ?_, fun q hq hn => by omega⟩
          · refine ⟨es.map (den ρ), ?_, by simp [r1, hful]⟩
            unfold rowE
            rw [if_neg (fun e => hk1 (Nat.eq_of_beq_eq_true e)), listE_den]
          · by_cases hk1 : te.size = 1
            · rw [if_pos hk1]
              unfold rowE
              rw [hk1, if_pos (show Nat.beq 1 1 = true from rfl)]
              have : q = 0 := by omega
              subst this
              cases es with
              | nil => simp at he
              | cons y ys => simp at he; subst he; rfl
            · rw [if_neg hk1]
              unfold rowE
              rw [if_neg (fun e => hk1 (Nat.eq_of_beq_eq_true e)), listE_den]
              simp only [T.cell, Nat.zero_add]
              rw [List.getD_eq_getElem?_getD, List.getElem?_map, he]; rfl
        · rw [if_neg (fun e => hful (Nat.eq_of_beq_eq_true e))]
          have hk1 : te.size ≠ 1 := by omega
          obtain ⟨l, hl1, hl2⟩ := hwf hk1 m hmr
          rw [hrt] at hl1; cases hl1
          obtain ⟨l', g1, g2, g3⟩ := setCs_den es (.bin .idx d i) j l hidx (by omega)
          refine ⟨_, rfl, fun _ => ⟨l', g1, by omega⟩, fun q e hq he => ?_, fun q hq hn => ?_⟩
          · rw [if_neg hk1, g1]
            simp only [T.cell]
            rw [List.getD_eq_getElem?_getD, g3, if_pos (by omega), show j + q - j = q by omega, he]; rfl
          · rw [if_neg hk1, if_neg hk1, g1]
            simp only [T.cell]
            rw [List.getD_eq_getElem?_getD, g3, if_neg (by omega), List.getD_eq_getElem?_getD]
      have hd' : ρ nx = .list (rows.set m nr) := by
        rw [show ρ nx = _ from hset]
        simp only [den, Tr.den, hd, hi, hnr, T.setI]
        rw [if_neg (by omega), Int.toNat_natCast]
      have hpl : ∀ x, x < (Act.eval ⟨tm, ds⟩ v).cells.size → m * te.size + j + x < C.K o * te.size := by
        intro x hx
        have h1 := place_lt hm (show j + x < te.size by omega)
        have h2 : C.N o * te.size ≤ C.K o * te.size := Nat.mul_le_mul_right _ hNK
        omega
      obtain ⟨w', s1, s2, s3, s4, s5⟩ := run_storeVar (P := P) (w := w) hT hti (b := b) (o := base + m * te.size + j) (v := Act.eval ⟨tm, ds⟩ v) (by rw [l1, c3]) hone (fun x hx => by
        have := hown (m * te.size + j + x) (hpl x hx)
        rw [show base + m * te.size + j + x = base + (m * te.size + j + x) by omega]; exact this)
      have hrng : ∀ x, base + m * te.size + j ≤ x → x < base + m * te.size + j + (Act.eval ⟨tm, ds⟩ v).cells.size → C.F o b x := by
        intro x h1 h2
        have hp := hpl (x - (base + m * te.size + j)) (by omega)
        cases hD with
        | @sl et ti' rows _ n c b' off vs Fs F hti' hsz' hn hc ha hwf hcell hrel hown hdis hdr hF =>
          rw [hte] at hti'; cases hti'
          rcases ha with ha | ha
          · cases ha; rw [hF]; exact .inl ⟨rfl, by omega, by simp; omega⟩
          · rw [ha] at hp; omega
      have hturn : Turned (C.F o) w w' := by
        refine ⟨s2.size, fun b' hb hn' => s2.blk b' hb fun x hx => hn' x ?_, fun b' x hb hn' => s2.cel b' x hb fun hx => hn' ?_, s2.os, s2.tape, s2.output⟩
        · obtain ⟨rfl, y1, y2⟩ := hx; exact hrng x y1 y2
        · obtain ⟨rfl, y1, y2⟩ := hx; exact hrng x y1 y2
      have hmvd : ∀ q o', mv q = some o' → Disj (C.F o) (C.F o') := by
        intro q o' hq
        obtain ⟨x1, _⟩ := r5 q o' hq
        obtain ⟨g, et'', d'', q1, q2⟩ := r7 o' x1
        exact h.dis o o' [] g _ _ ho q1 trivial q2 (fun e => hnm (e ▸ x1)) rfl rfl
      have hFd : ∀ q, Disj (C.F o) (Fs q) := by
        intro q
        cases hq : mv q with
        | none => rw [r4 q hq]; exact fun _ _ _ h => h
        | some o' => exact (hmvd q o' hq).sub (Sub.refl _) (r5 q o' hq).2
      have hFdd : ∀ q q', q ≠ q' → Disj (Fs q) (Fs q') := by
        intro q q' hne b y h1 h2
        cases hq : mv q with
        | none => rw [r4 q hq] at h1; exact h1
        | some o1 =>
          cases hq' : mv q' with
          | none => rw [r4 q' hq'] at h2; exact h2
          | some o2 =>
            obtain ⟨x1, x2⟩ := r5 q o1 hq
            obtain ⟨y1, y2⟩ := r5 q' o2 hq'
            obtain ⟨g, et', d, ho1, hg1⟩ := r7 o1 x1
            obtain ⟨g', et'', d', ho2, hg2⟩ := r7 o2 y1
            exact h.dis o1 o2 g g' _ _ ho1 ho2 hg1 hg2 (fun e => r6 q q' o1 hne hq (by rw [hq', e])) rfl rfl b y (x2 b y h1) (y2 b y h2)
      have hold : ∀ q b y, Fs q b y → b < w.heap.size := by
        intro q b y hf
        cases hq : mv q with
        | none => rw [r4 q hq] at hf; exact hf.elim
        | some o' =>
          obtain ⟨x1, x2⟩ := r5 q o' hq
          obtain ⟨g, et', d, ho1, hg1⟩ := r7 o' x1
          exact h.lt' ho1 hg1 (x2 b y hf)
      obtain ⟨F'', f1, f2⟩ := hD.putN (w' := w') (rows' := rows.set m nr) (j := j) (sz := ls.length) hte hm c4 (fun q => ((Act.eval ⟨tm, ds⟩ v).cells[q]?).getD undef) Fs (by simp) (by
          intro hk1 q hq
          simp only [List.length_set] at hq
          by_cases e : m = q
          · subst e
            obtain ⟨l, hl1, hl2⟩ := hnr1 hk1
            exact ⟨l, by rw [List.getElem?_set_self hq, hl1], hl2⟩
          · obtain ⟨l, hl1, hl2⟩ := hwf hk1 q hq
            exact ⟨l, by rw [List.getElem?_set_ne e]; exact hl1, hl2⟩)
        (fun q hq => by
          obtain ⟨ck, v', e, _, hv', _⟩ := hcell q hq
          simp only [hv', Option.getD_some]
          exact s3 q v' hv') (fun x => s5 b x)
        (fun b' o' hf hn => ⟨s4 b' o' (by rw [l1]; exact hn), s5 b' o'⟩)
        (fun q ck hq hck => by
          obtain ⟨ck', v', e, hck', hv', he, hrel, _⟩ := hcell q hq
          rw [hck] at hck'; cases hck'
          simp only [hv', Option.getD_some]
          have hct : cellT te.size (rows.set m nr) m (j + q) = den ρ e := by
            unfold cellT
            rw [List.getD_eq_getElem?_getD, List.getElem?_set_self hmr, Option.getD_some]
            exact hnr2 q e hq he
          rw [hct]
          refine hrel.frame fun b' y hf => ⟨s4 b' y fun hh => ?_, s5 b' y⟩
          obtain ⟨rfl, h1, h2⟩ := hh
          exact hFd q _ _ (hrng y h1 h2) hf)
        (fun i' j' hi' hj' hn => by
          unfold cellT
          rw [List.getD_eq_getElem?_getD]
          by_cases e : m = i'
          · subst e
            rw [List.getElem?_set_self hmr, Option.getD_some, List.getD_eq_getElem?_getD, hrt, Option.getD_some]
            exact hnr3 j' hj' fun hh => hn ⟨rfl, hh.1, hh.2⟩
          · rw [List.getElem?_set_ne e, List.getD_eq_getElem?_getD])
        (fun q _ => hFd q) (fun q q' _ _ hne => hFdd q q' hne)
      have h1 := h.delsAll ms
      have ho1 : (Γ.appOb (dels ms)).obj o = some ([], .row true et d) := by
        have : ∀ (ms : List Nat) (Γ : Gam), o ∉ ms → (Γ.appOb (dels ms)).obj o = Γ.obj o := by
          intro ms
          induction ms with
          | nil => intro Γ _; rfl
          | cons x xs ih =>
            intro Γ hn
            simp only [List.mem_cons, not_or] at hn
            show ((Γ.delOb x).appOb (dels xs)).obj o = _
            rw [ih _ hn.2, Gam.obj_delOb_ne _ (Ne.symm hn.1)]
        rw [this ms Γ hnm]; exact ho
      have hrel := h1.upd (ob' := .row true et (.var nx)) (F' := F'') (kn' := kn.addV nx) ho1 trivial rfl hturn (Kn.le_addV kn nx) ⟨nx, rfl, .inr rfl⟩ (fun et' x e => by cases e; exact hfx nx (Nat.le_refl _) (Nat.lt_succ_self _)) ?_ ?_ ?_
      · have hE : Γ.appOb (dels ms ++ [(o, some ([], Obj.row true et (.var nx)))]) = (Γ.appOb (dels ms)).setOb o ([], Obj.row true et (.var nx)) := by rw [Gam.appOb_append]; rfl
        rw [← hE] at hrel
        refine Done.skip (w' := w') ?_ ⟨_, kn.addV nx, hrel, ⟨trivial, fun cs => by simp [undef]⟩, Ext.upd (Kn.le_addV kn nx), fun _ => .inl, fun x hx => hx.imp id fun e => ⟨by omega, by simp only; omega⟩⟩
        simp only [execOp, hva, Sem.run_bind, s1, Result.andThen_ok, Sem.run_pure]
      · refine ⟨_, hd', ?_⟩
        rw [Ctx.set_self.1, Ctx.set_self.2.1, Ctx.set_self.2.2.1, Ctx.set_self.2.2.2, hA]
        exact f2
      · intro o' g' ob'' hne ho' hg' hv' b' y hf hf'
        obtain ⟨hn', ho2⟩ := obj_dels ms Γ ho'
        rcases f1 b' y hf with hf | ⟨q, hq, hf⟩
        · exact h.dis o o' [] g' _ ob'' ho ho2 trivial hg' (Ne.symm hne) rfl hv' b' y hf hf'
        · cases hmq : mv q with
          | none => rw [r4 q hmq] at hf; exact hf
          | some o3 =>
            obtain ⟨x1, x2⟩ := r5 q o3 hmq
            obtain ⟨g3, et3, d3, q1, q2⟩ := r7 o3 x1
            exact h.dis o3 o' g3 g' _ ob'' q1 ho2 q2 hg' (fun e => hn' (e ▸ x1)) rfl hv' b' y (x2 b' y hf) hf'
      · intro b' y hf
        rcases f1 b' y hf with hf | ⟨q, hq, hf⟩
        · exact h.own o [] _ ho trivial rfl b' y hf
        · cases hmq : mv q with
          | none => rw [r4 q hmq] at hf; exact hf.elim
          | some o3 =>
            obtain ⟨x1, x2⟩ := r5 q o3 hmq
            obtain ⟨g3, et3, d3, q1, q2⟩ := r7 o3 x1
            exact h.own o3 g3 _ q1 q2 rfl b' y (x2 b' y hf)
  · cases hr

def anMax (Γ : Gam) (G : Grd) (nx no : Nat) (mx : Bool) (x y : Operand) : Option Res :=
  match opd Γ G x, opd Γ G y with
  | some (.s (.one (.int k a))), some (.s (.one (.int k' b))) => if k = k' then some ⟨.s (.one (.int k (.bin (if mx then .max else .min) a b))), [], [], nx, no⟩ else none
  | _, _ => none
theorem anMax_sound (h : Rel tab Γ ρ tm w C kn Wr w0) (hG : holdsG ρ G) {mx : Bool} {x y : Operand} {r : Res} (hr : anMax Γ G nx no mx x y = some r) {ts : Array TypeId} {ds : List Deferred}
    {dst : Option Tmp} {ty : TypeId} {pos : String} {aft : Array Edge} {gd : Option (Nat × Bool)} :
    Yield P (execOp (Act.eval ⟨tm, ds⟩) ⟨dst, .call { callee := .builtin (if mx then .max else .min), args := #[x, y], argTypes := ts }, ty, pos, aft, gd⟩) w fun v w' => Post tab Γ ρ tm C kn Wr w0 nx no r v w' := by
  unfold anMax at hr
  split at hr
  case h_2 => cases hr
  rename_i k a k' b hx hy
  split at hr
  case isFalse => cases hr
  rename_i hk
  subst hk
  cases hr
  obtain ⟨m, hm, hvm⟩ := one_int (opd_sound h hG hx (ds := ds))
  obtain ⟨n, hn, hvn⟩ := one_int (opd_sound h hG hy (ds := ds))
  unfold Yield
  cases mx with
  | true =>
    simp only [execOp, resolve, invoke, builtin, Builtin.max_, if_true, Sem.run_bind, Sem.run_pure, Result.andThen_ok, List.map_toArray, List.map_cons, List.map_nil, hvm, hvn, List.foldlM_cons, List.foldlM_nil, Builtin.max2]
    exact ⟨_, _, rfl, Post.pure h rfl (mk_int (by simp [den, B.den, hm, hn, T.imax]))⟩
  | false =>
    simp only [execOp, resolve, invoke, builtin, Builtin.min_, if_false, Bool.false_eq_true, Sem.run_bind, Sem.run_pure, Result.andThen_ok, List.map_toArray, List.map_cons, List.map_nil, hvm, hvn, List.foldlM_cons, List.foldlM_nil, Builtin.min2]
    exact ⟨_, _, rfl, Post.pure h rfl (mk_int (by simp [den, B.den, hm, hn, T.imin]))⟩
end
end Gp
