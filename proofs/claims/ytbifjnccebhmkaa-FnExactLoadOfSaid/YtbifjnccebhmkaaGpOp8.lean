/- Gp, part 13: new rows: slices made of parts, of zeros. -/
import Derived.Test.YtbifjnccebhmkaaGpOp7
set_option linter.unusedVariables false
set_option linter.unusedSimpArgs false
namespace Gp
open Go

def dataLeaves (tab : Tab) (Γ : Gam) (G : Grd) : List CK → List Leaf → Option (List Exp × List Nat)
  | [], [] => some ([], [])
  | ck :: cks, l :: ls => match dataLeaf tab Γ G ck l, dataLeaves tab Γ G cks ls with
    | some (e, none), some (es, ms) => some (e :: es, ms)
    | some (e, some o), some (es, ms) => if ms.contains o then none else some (e :: es, o :: ms)
    | _, _ => none
  | _, _ => none

section
variable {tab : Tab} {Γ : Gam} {ρ : Env} {tm : Array Value} {w w' : World} {C : Ctx} {kn : Kn} {Wr : CS} {w0 : World} {P : Program} {I : Nat → List T → List T → Prop} {G : Grd} {nx no : Nat}

/-- What moved objects' cells are worth: owned, and each one's own. -/
theorem dataLeaves_sound (hT : TabOk P tab) (h : Rel tab Γ ρ tm w C kn Wr w0) (hG : holdsG ρ G) : ∀ {cks : List CK} {ls : List Leaf} {es : List Exp} {ms : List Nat} {vs : List Value}, dataLeaves tab Γ G cks ls = some (es, ms) →
    vs.length = ls.length → (∀ (q : Nat) l, ls[q]? = some l → ∃ u, vs[q]? = some u ∧ LeafRel tab C kn.o ρ l u) →
    ∃ (Fs : Nat → CS) (mv : Nat → Option Nat), es.length = cks.length ∧ ls.length = cks.length ∧
      (∀ (q : Nat) ck v e, cks[q]? = some ck → vs[q]? = some v → es[q]? = some e → DRel tab w true ck v (den ρ e) (Fs q) ∧ v.oneCell' = true) ∧
      (∀ q, mv q = none → Fs q = Emp) ∧ (∀ q o, mv q = some o → o ∈ ms ∧ Sub (Fs q) (C.F o)) ∧ (∀ q q' o, q ≠ q' → mv q = some o → mv q' ≠ some o) ∧
      (∀ o ∈ ms, ∃ g et d, Γ.obj o = some (g, .row true et d) ∧ holdsG ρ g)
  | [], [], es, ms, vs, hd, hlen, hl => by
    cases hd
    exact ⟨fun _ => Emp, fun _ => none, rfl, rfl, fun q ck v e hq => (by simp at hq), fun _ _ => rfl, fun _ _ h => (by cases h), fun _ _ _ _ h => (by cases h), fun o ho => (by simp at ho)⟩
  | [], _ :: _, es, ms, vs, hd, hlen, hl => by simp [dataLeaves] at hd
  | _ :: _, [], es, ms, vs, hd, hlen, hl => by simp [dataLeaves] at hd
  | ck :: cks, l :: ls, es, ms, vs, hd, hlen, hl => by
    simp only [dataLeaves] at hd
    obtain ⟨v, hv, hlr⟩ := hl 0 l rfl
    cases vs with
    | nil => simp at hlen
    | cons v' vs =>
      simp at hv; subst hv
      have hlen' : vs.length = ls.length := by simpa using hlen
      have hl' : ∀ (q : Nat) l, ls[q]? = some l → ∃ u, vs[q]? = some u ∧ LeafRel tab C kn.o ρ l u := fun q l' hq => by simpa using hl (q + 1) l' (by simpa using hq)
      split at hd
      · rename_i e es' ms' h1 h2
        cases hd
        obtain ⟨F', d1, d2, d3, d4⟩ := dataLeaf_sound hT h hG h1 hlr
        have d3 := d3 rfl
        subst d3
        obtain ⟨Fs, mv, r1, r2, r3, r4, r5, r6, r7⟩ := dataLeaves_sound hT h hG h2 hlen' hl'
        refine ⟨fun q => match q with | 0 => Emp | q + 1 => Fs q, fun q => match q with | 0 => none | q + 1 => mv q, by simp [r1], by simp [r2], ?_, ?_, ?_, ?_, r7⟩
        · intro q ck' v e' hq hvq he
          cases q with
          | zero => simp at hq hvq he; subst hq; subst hvq; subst he; exact ⟨d1, d2⟩
          | succ q => exact r3 q ck' v e' (by simpa using hq) (by simpa using hvq) (by simpa using he)
        · intro q hq
          cases q with
          | zero => rfl
          | succ q => exact r4 q hq
        · intro q o hq
          cases q with
          | zero => cases hq
          | succ q => exact r5 q o hq
        · intro q q' o hne hq
          cases q with
          | zero => cases hq
          | succ q => cases q' with
            | zero => simp
            | succ q' => exact r6 q q' o (by omega) hq
      · rename_i e o es' ms' h1 h2
        split at hd
        · cases hd
        · rename_i hnc
          cases hd
          obtain ⟨F', d1, d2, d3, d4⟩ := dataLeaf_sound hT h hG h1 hlr
          obtain ⟨d4, d5⟩ := d4 o rfl
          obtain ⟨Fs, mv, r1, r2, r3, r4, r5, r6, r7⟩ := dataLeaves_sound hT h hG h2 hlen' hl'
          have hno : o ∉ ms' := by simpa using hnc
          refine ⟨fun q => match q with | 0 => F' | q + 1 => Fs q, fun q => match q with | 0 => some o | q + 1 => mv q, by simp [r1], by simp [r2], ?_, ?_, ?_, ?_, ?_⟩
          · intro q ck' v e' hq hvq he
            cases q with
            | zero => simp at hq hvq he; subst hq; subst hvq; subst he; exact ⟨d1, d2⟩
            | succ q => exact r3 q ck' v e' (by simpa using hq) (by simpa using hvq) (by simpa using he)
          · intro q hq
            cases q with
            | zero => cases hq
            | succ q => exact r4 q hq
          · intro q o' hq
            cases q with
            | zero => cases hq; exact ⟨by simp, d4⟩
            | succ q => obtain ⟨x1, x2⟩ := r5 q o' hq; exact ⟨by simp [x1], x2⟩
          · intro q q' o' hne hq hq'
            cases q with
            | zero => cases q' with
              | zero => exact hne rfl
              | succ q' => cases hq; exact hno (r5 q' o hq').1
            | succ q => cases q' with
              | zero => cases hq'; exact hno (r5 q o hq).1
              | succ q' => exact r6 q q' o' (by omega) hq hq'
          · intro o' ho'
            rcases List.mem_cons.1 ho' with rfl | ho'
            · exact d5
            · exact r7 o' ho'
      · cases hd

/-- The objects of a list are forgotten. -/
def dels (ms : List Nat) : List (Nat × Option (Grd × Obj)) := ms.map fun o => (o, none)
theorem Rel.delsAll (h : Rel tab Γ ρ tm w C kn Wr w0) : ∀ (ms : List Nat), Rel tab (Γ.appOb (dels ms)) ρ tm w C kn Wr w0 := by
  intro ms
  induction ms generalizing Γ with
  | nil => exact h
  | cons o ms ih => exact ih (h.delOb o)
theorem obj_dels : ∀ (ms : List Nat) (Γ : Gam) {o : Nat} {x : Grd × Obj}, (Γ.appOb (dels ms)).obj o = some x → o ∉ ms ∧ Γ.obj o = some x
  | [], Γ, o, x, h => ⟨by simp, h⟩
  | m :: ms, Γ, o, x, h => by
    obtain ⟨h1, h2⟩ := obj_dels ms (Γ.delOb m) h
    by_cases e : m = o
    · subst e; rw [Gam.obj_delOb_self] at h2; cases h2
    · rw [Gam.obj_delOb_ne _ e] at h2
      exact ⟨by simp [h1]; exact fun e' => e e'.symm, h2⟩

theorem Rel.lt' (h : Rel tab Γ ρ tm w C kn Wr w0) {o : Nat} {g : Grd} {et : TypeId} {d : Exp} (ho : Γ.obj o = some (g, .row true et d)) (hg : holdsG ρ g) {b x : Nat} (hf : C.F o b x) : b < w.heap.size := h.old ho hg rfl hf

/-- A new owned row. 'F': new memory, and what moved objects held. -/
theorem Rel.newRow (h : Rel tab Γ ρ tm w C kn Wr w0) (k : Grows w w') {ms : List Nat} (hms : ∀ o ∈ ms, ∃ g et d, Γ.obj o = some (g, .row true et d) ∧ holdsG ρ g)
    {et : TypeId} {rows : List T} {a : Option Addr} {n c : Nat} {F : CS} (hD : DRel tab w' true (.sl et) (.slice a n c) (.list rows) F)
    (hF : ∀ b x, F b x → w.heap.size ≤ b ∨ ∃ o ∈ ms, C.F o b x) (hno : ¬ kn.o no) (hnx : ¬ kn.v nx) (hd : ρ nx = .list rows) :
    Rel tab ((Γ.appOb (dels ms)).setOb no (G, .row true et (.var nx))) ρ tm w' (C.set no a n c F) ((kn.addV nx).addO no) Wr w0 := by
  have h1 := ((h.delsAll ms).grows k).know (Kn.le_addV kn nx)
  have hdj : ∀ o' g' ob', (Γ.appOb (dels ms)).obj o' = some (g', ob') → holdsG ρ g' → ob'.isView = false → Disj F (C.F o') := by
    intro o' g' ob' ho' hg' hv' b x hf hf'
    obtain ⟨hn', ho⟩ := obj_dels ms Γ ho'
    have hlt := h.old ho hg' hv' hf'
    rcases hF b x hf with h2 | ⟨m, hm, h2⟩
    · omega
    · obtain ⟨gm, etm, dm, hom, hgm⟩ := hms m hm
      exact h.dis m o' gm g' _ ob' hom ho hgm hg' (fun e => hn' (e ▸ hm)) rfl hv' b x h2 hf'
  refine h1.addOb (ob := .row true et (.var nx)) hno ⟨nx, rfl, .inr rfl⟩ (fun _ => ?_) (fun _ _ => hdj) (fun _ _ o' g' ob' ho' hg' hown => ?_) (fun _ _ b x hf => ?_)
  · exact ⟨rows, hd, by rw [Ctx.set_self.1, Ctx.set_self.2.1, Ctx.set_self.2.2.1, Ctx.set_self.2.2.2]; exact hD⟩
  · exact (hdj o' g' ob' ho' hg' (by cases ob' <;> simp_all [Obj.owned, Obj.isView])).symm
  · rcases hF b x hf with h2 | ⟨m, hm, h2⟩
    · exact .inr (Nat.le_trans h.frm.size h2)
    · obtain ⟨gm, etm, dm, hom, hgm⟩ := hms m hm
      exact h.own m gm _ hom hgm rfl b x h2

def listE : List Exp → Exp
  | [] => .nil
  | e :: es => .bin .cons e (listE es)
theorem listE_den : ∀ es : List Exp, den ρ (listE es) = .list (es.map (den ρ))
  | [] => rfl
  | e :: es => by simp only [listE, den, B.den, listE_den es, T.cons, List.map_cons]
def rowE (k : Nat) (es : List Exp) : Exp := if Nat.beq k 1 then es.headD .nil else listE es
/-- Flat cells' expressions, cut into rows. -/
def rowsE (k : Nat) : Nat → List Exp → List Exp
  | 0, _ => []
  | n + 1, es => rowE k (es.take k) :: rowsE k n (es.drop k)
theorem rowsE_length (k : Nat) : ∀ (n : Nat) (es : List Exp), (rowsE k n es).length = n
  | 0, _ => rfl
  | n + 1, es => by simp [rowsE, rowsE_length k n]
theorem rowsE_get (k : Nat) : ∀ (n : Nat) (es : List Exp) (i : Nat), i < n → (rowsE k n es)[i]? = some (rowE k ((es.drop (i * k)).take k))
  | 0, _, i, h => by omega
  | n + 1, es, 0, h => by simp [rowsE]
  | n + 1, es, i + 1, h => by
    simp only [rowsE, List.getElem?_cons_succ]
    rw [rowsE_get k n _ i (by omega), List.drop_drop, Nat.add_mul, Nat.one_mul, Nat.add_comm]
theorem rows_cell {k n : Nat} {es : List Exp} (hes : es.length = n * k) {i j : Nat} (hi : i < n) (hj : j < k) {e : Exp} (he : es[i * k + j]? = some e) : cellT k ((rowsE k n es).map (den ρ)) i j = den ρ e := by
  have h1 : ((rowsE k n es).map (den ρ)).getD i .hole = den ρ (rowE k ((es.drop (i * k)).take k)) := by
    rw [List.getD_eq_getElem?_getD, List.getElem?_map, rowsE_get k n es i hi]; rfl
  have h2 : ((es.drop (i * k)).take k)[j]? = some e := by
    rw [List.getElem?_take_of_lt hj, List.getElem?_drop]; exact he
  unfold cellT
  by_cases hk : k = 1
  · rw [if_pos hk, h1]
    subst hk
    have : j = 0 := by omega
    subst this
    unfold rowE
    rw [if_pos (show Nat.beq 1 1 = true from rfl)]
    cases hx : (es.drop (i * 1)).take 1 with
    | nil => rw [hx] at h2; simp at h2
    | cons y ys => rw [hx] at h2; simp at h2; subst h2; rfl
  · rw [if_neg hk, h1]
    unfold rowE
    rw [if_neg (fun e => hk (Nat.eq_of_beq_eq_true e)), listE_den]
    simp only [T.cell]
    rw [List.getD_eq_getElem?_getD, List.getElem?_map, h2]; rfl
theorem rows_wf {k n : Nat} {es : List Exp} (hes : es.length = n * k) : WfRows k ((rowsE k n es).map (den ρ)) := by
  intro hk i hi
  simp only [List.length_map, rowsE_length] at hi
  refine ⟨((es.drop (i * k)).take k).map (den ρ), ?_, ?_⟩
  · rw [List.getElem?_map, rowsE_get k n es i hi]
    simp only [Option.map_some, rowE]
    rw [if_neg (fun e => hk (Nat.eq_of_beq_eq_true e)), listE_den]
  · simp only [List.length_map, List.length_take, List.length_drop, hes]
    have h1 : (i + 1) * k ≤ n * k := Nat.mul_le_mul_right k hi
    rw [Nat.add_mul, Nat.one_mul] at h1
    omega

theorem flatten_get {α : Type} {l : List α} {k : Nat} (hk : l.length = k) : ∀ (n i j : Nat), i < n → j < k → ((List.replicate n l).flatten)[i * k + j]? = l[j]?
  | 0, i, j, h, _ => by omega
  | n + 1, 0, j, _, hj => by
    rw [List.replicate_succ, List.flatten_cons, Nat.zero_mul, Nat.zero_add, List.getElem?_append_left (by omega)]
  | n + 1, i + 1, j, h, hj => by
    rw [List.replicate_succ, List.flatten_cons, List.getElem?_append_right (by rw [hk, Nat.add_mul]; omega), hk, Nat.add_mul]
    rw [show i * k + 1 * k + j - k = i * k + j by omega]
    exact flatten_get hk n i j (by omega) hj
theorem flatten_len {α : Type} {l : List α} {n : Nat} : ((List.replicate n l).flatten).length = n * l.length := by simp

/-- A whole new row in a new block. -/
theorem Post.newRow (hT : TabOk P tab) (h : Rel tab Γ ρ tm w C kn Wr w0) (hG : holdsG ρ G) {t et : TypeId} {te : TI} (hte : tab.get et = some te) (hk0 : 0 < te.size) {n c : Nat} (hnc : n ≤ c) {cells : Array Value} (hcs : cells.size = c * te.size)
    {es : List Exp} {ms : List Nat} {ls : List Leaf} {lenE x : Exp} (hds : dataLeaves tab Γ G ((List.replicate n te.cks).flatten) ls = some (es, ms))
    (hls : ∀ (q : Nat) l, ls[q]? = some l → ∃ u, cells[q]? = some u ∧ LeafRel tab C kn.o ρ l u) (hlen : ls.length = n * te.size) (hno : ¬ kn.o no) (hnx : ¬ kn.v nx)
    (hd : ρ nx = .list ((rowsE te.size n es).map (den ρ))) (hlenE : den ρ lenE = .int n) {sis : List (Grd × SI)} {w1 : World} (hw1 : Grows w w1) :
    Post tab Γ ρ tm C kn Wr w0 nx no ⟨.s (.one (.sl no et (.int 0) lenE)), dels ms ++ [(no, some (G, .row true et (.var nx)))], sis, nx + 1, no + 1⟩ (.slice (some ⟨w1.heap.size, 0, none⟩) n c) (w1.alloc (.cells cells et)) := by
  have hsz : te.size = te.cks.length := (hT et te hte).len
  have hgr : Grows w (w1.alloc (.cells cells et)) := hw1.trans (Grows.push w1 _)
  have hncs : n * te.size ≤ c * te.size := Nat.mul_le_mul_right _ hnc
  have hcl : cells.toList.length = c * te.size := by simpa using hcs
  obtain ⟨Fs, mv, r1, r2, r3, r4, r5, r6, r7⟩ := dataLeaves_sound hT h hG hds (vs := cells.toList.take ls.length) (by rw [List.length_take, hcl, hlen]; omega) (fun q l hq => by
    obtain ⟨u, hu, hr⟩ := hls q l hq
    exact ⟨u, by rw [List.getElem?_take_of_lt (List.getD_some_lt hq)]; simp [hu], hr⟩)
  have hes : es.length = n * te.size := by rw [r1, flatten_len, hsz]
  have hold : ∀ q b y, Fs q b y → b < w.heap.size ∧ ∃ o ∈ ms, C.F o b y := by
    intro q b y hf
    cases hm : mv q with
    | none => rw [r4 q hm] at hf; exact hf.elim
    | some o =>
      obtain ⟨x1, x2⟩ := r5 q o hm
      obtain ⟨g, et', d, ho, hg⟩ := r7 o x1
      exact ⟨h.lt' ho hg (x2 b y hf), o, x1, x2 b y hf⟩
  have hdj : ∀ q q', q ≠ q' → Disj (Fs q) (Fs q') := by
    intro q q' hne b y h1 h2
    cases hm : mv q with
    | none => rw [r4 q hm] at h1; exact h1
    | some o =>
      cases hm' : mv q' with
      | none => rw [r4 q' hm'] at h2; exact h2
      | some o' =>
        obtain ⟨x1, x2⟩ := r5 q o hm
        obtain ⟨y1, y2⟩ := r5 q' o' hm'
        obtain ⟨g, et', d, ho, hg⟩ := r7 o x1
        obtain ⟨g', et'', d', ho', hg'⟩ := r7 o' y1
        have hoo : o ≠ o' := fun e => r6 q q' o hne hm (by rw [hm', e])
        exact h.dis o o' g g' _ _ ho ho' hg hg' hoo rfl rfl b y (x2 b y h1) (y2 b y h2)
  have hin : ∀ i j, i < n → j < te.size → i * te.size + j < n * te.size := fun i j hi hj => place_lt hi hj
  have hD : DRel tab (w1.alloc (.cells cells et)) true (.sl et) (.slice (some ⟨w1.heap.size, 0, none⟩) n c) (.list ((rowsE te.size n es).map (den ρ))) (rowF w1.heap.size 0 c n te.size fun i j => Fs (i * te.size + j)) := by
    refine .sl (b := w1.heap.size) (off := 0) (vs := fun i j => (cells[i * te.size + j]?).getD undef) (Fs := fun i j => Fs (i * te.size + j)) hte hsz (by simp [rowsE_length]) hnc (.inl rfl) (rows_wf hes) ?_ ?_ ?_ ?_ ?_ rfl
    · intro i j hi hj
      have := hin i j hi hj
      rw [cellAt_new, Nat.zero_add, Array.getElem?_eq_getElem (by omega)]; rfl
    · intro i j ck hi hck
      have hj := List.getD_some_lt hck
      rw [← hsz] at hj
      have hq := hin i j hi hj
      have e1 : es[i * te.size + j]? = some (es[i * te.size + j]'(by omega)) := List.getElem?_eq_getElem (by omega)
      rw [rows_cell hes hi hj e1]
      have e2 : cells[i * te.size + j]? = some (cells[i * te.size + j]'(by omega)) := Array.getElem?_eq_getElem (by omega)
      show DRel tab _ true ck ((cells[i * te.size + j]?).getD undef) _ _
      rw [e2, Option.getD_some]
      refine (r3 _ ck _ _ ?_ ?_ e1).1.frame (hgr.same fun b y hf => (hold _ b y hf).1)
      · rw [hsz, flatten_get rfl n i j hi (by omega)]; exact hck
      · rw [List.getElem?_take_of_lt (by omega)]; simp
    · intro _ y hy
      refine ⟨cells[y]'(by omega), ?_, frozenAt_new ..⟩
      rw [cellAt_new, Nat.zero_add, Array.getElem?_eq_getElem (by omega)]
    · intro _ i j i' j' hi hj hi' hj' hne
      exact hdj _ _ fun e => hne (by obtain ⟨e1, e2⟩ := place_inj hj hj' e; rw [e1, e2])
    · rintro _ i j hi hj b y ⟨rfl, _, _⟩ hf
      have := (hold _ _ _ hf).1
      have := hw1.size
      omega
  have hrel := h.newRow (G := G) hgr r7 hD (fun b y hf => by
    rcases hf with ⟨rfl, _, _⟩ | ⟨i, j, hi, hj, hf⟩
    · exact .inl hw1.size
    · exact .inr (hold _ _ _ hf).2) hno hnx hd
  have hE : Γ.appOb (dels ms ++ [(no, some (G, Obj.row true et (.var nx)))]) = (Γ.appOb (dels ms)).setOb no (G, Obj.row true et (.var nx)) := by rw [Gam.appOb_append]; rfl
  rw [← hE] at hrel
  refine ⟨_, _, hrel, ?_, ?_, ?_, ?_⟩
  · refine ⟨⟨.inr rfl, 0, n, _, c, rfl, hlenE, rfl, ?_, hnc, ?_, .inr ⟨w1.heap.size, 0, Ctx.set_self.1, by simp⟩⟩, fun cs => by simp⟩
    · rw [Ctx.set_self.2.1]; omega
    · rw [Ctx.set_self.2.2.1]; omega
  · exact Ext.set hno ⟨fun o ho => .inl ho, fun y hy => .inl hy⟩
  · intro o ho
    rcases ho with ho | ho
    · exact .inl ho
    · exact .inr ⟨by omega, by simp only; omega⟩
  · intro y hy
    rcases hy with hy | hy
    · exact .inl hy
    · exact .inr ⟨by omega, by simp only; omega⟩

def anBuildSlice (tab : Tab) (Γ : Gam) (G : Grd) (nx no : Nat) (t : TypeId) (len : Nat) (parts : Array (Nat × Operand)) : Option Res :=
  match tab.get t with
  | some ti => match ti.td with
    | .slice et => match tab.get et with
      | some te => if Nat.blt 0 te.size && Nat.ble (len * te.size) 16777216 then
          match fillL (fun i => some (i * te.size, te.size)) Γ G ((List.replicate len (te.cks.map zeroLeaf)).flatten) parts.toList with
          | some ls => match dataLeaves tab Γ G ((List.replicate len te.cks).flatten) ls with
            | some (es, ms) => if ms.isEmpty || G.isEmpty then
                some ⟨.s (.one (.sl no et (.int 0) (.un .len (.var nx)))), dels ms ++ [(no, some (G, .row true et (.var nx)))], [(G, .set nx (listE (rowsE te.size len es)))], nx + 1, no + 1⟩
              else none
            | none => none
          | none => none
        else none
      | none => none
    | _ => none
  | none => none

theorem zeroCells_rel {k : Nat → Prop} {te : TI} {z : Value} (hz : zerosAre te.cks z.cells.toList = true) (hsz : te.size = te.cks.length) (hk0 : 0 < te.size) (n : Nat) :
    LeavesRel tab C k ρ ((List.replicate n (te.cks.map zeroLeaf)).flatten) ((Array.range (n * te.size)).map (z.cells[· % z.cells.size]!)) := by
  obtain ⟨z1, z2⟩ := zeros_sound (tab := tab) (C := C) (ρ := ρ) (k := k) hz
  have hzs : z.cells.size = te.size := by rw [z1]; simp [hsz]
  refine ⟨by rw [flatten_len]; simp [hsz], fun q l hq => ?_⟩
  have hq' := List.getD_some_lt hq
  rw [flatten_len] at hq'
  simp only [List.length_map, ← hsz] at hq'
  have hdm := Nat.div_add_mod q te.size
  rw [Nat.mul_comm] at hdm
  have hm := Nat.mod_lt q hk0
  have hdiv : q / te.size < n := (Nat.div_lt_iff_lt_mul hk0).2 hq'
  rw [← hdm, flatten_get (k := te.size) (by simp [hsz]) n _ _ hdiv hm] at hq
  obtain ⟨u, hu, hr⟩ := z2 _ l hq
  refine ⟨u, ?_, hr⟩
  rw [Array.getElem?_map, Array.getElem?_range, if_pos hq']
  simp only [Option.map_some, hzs]
  rw [getElem!_def, hu]

theorem anBuildSlice_sound (hT : TabOk P tab) (h : Rel tab Γ ρ tm w C kn Wr w0) (hG : holdsG ρ G) {t : TypeId} {len : Nat} {parts : Array (Nat × Operand)} {r : Res} (hr : anBuildSlice tab Γ G nx no t len parts = some r) (hS : HoldsS I ρ r.sis)
    (hf : ∀ o, no ≤ o → o < r.no → ¬ kn.o o) (hfx : ∀ x, nx ≤ x → x < r.nx → ¬ kn.v x) {ds : List Deferred}
    {dst : Option Tmp} {ty : TypeId} {pos : String} {aft : Array Edge} {gd : Option (Nat × Bool)} :
    Yield P (execOp (Act.eval ⟨tm, ds⟩) ⟨dst, .buildSlice t len parts, ty, pos, aft, gd⟩) w fun v w' => Post tab Γ ρ tm C kn Wr w0 nx no r v w' := by
  unfold anBuildSlice at hr
  split at hr
  case h_2 => cases hr
  rename_i ti hti
  split at hr
  case h_2 => cases hr
  rename_i et htd
  split at hr
  case h_2 => cases hr
  rename_i te hte
  split at hr
  case isFalse => cases hr
  rename_i hc
  simp only [Bool.and_eq_true] at hc
  have hk0 : 0 < te.size := Nat.le_of_ble_eq_true hc.1
  have hc2 := Nat.le_of_ble_eq_true hc.2
  split at hr
  case h_2 => cases hr
  rename_i ls hls
  split at hr
  case h_2 => cases hr
  rename_i es ms hds
  split at hr
  case isFalse => cases hr
  cases hr
  have hsz : te.size = te.cks.length := (hT et te hte).len
  obtain ⟨z, hz, hzs, _⟩ := run_zeroValue (w := w) hT hte
  obtain ⟨cells', g1, g2, g3⟩ := fillL_sound h hG parts.toList hls (zeroCells_rel (tab := tab) (C := C) (ρ := ρ) (k := kn.o) hzs hsz hk0 len) (ds := ds)
  have hsize : cells'.size = len * te.size := by rw [g3]; simp
  have hden := hS (G, .set nx (listE (rowsE te.size len es))) (by simp) hG
  simp only [SIok, listE_den] at hden
  have hfill : Instr.fill (fun i => some (i * te.size, te.size)) ((Array.range (len * te.size)).map (z.cells[· % z.cells.size]!)) (parts.map fun x => (x.1, Act.eval ⟨tm, ds⟩ x.2)).toList = some cells' := by
    have e1 : (parts.map fun x => (x.1, Act.eval ⟨tm, ds⟩ x.2)).toList = parts.toList.map fun p => (p.1, Act.eval ⟨tm, ds⟩ p.2) := by simp
    rw [e1]; exact g1
  have hpost := Post.newRow (t := t) (nx := nx) (no := no) (sis := [(G, .set nx (listE (rowsE te.size len es)))]) (lenE := .un .len (.var nx)) (x := .nil) hT h hG hte hk0 (Nat.le_refl len) hsize hds g2.2 (by rw [← g2.1, hsize]) (hf no (Nat.le_refl _) (by simp)) (hfx nx (Nat.le_refl _) (by simp)) hden (by simp only [den, U.den, hden, T.len, List.length_map, rowsE_length]) (Grows.refl w)
  unfold Yield
  simp only [execOp, Instr.buildSlice, underlying, Sem.run_bind, run_program, Result.andThen_ok, und_slice hT hti htd, Sem.run_pure, run_sizeOf hT hte, Sem.run_ite]
  rw [if_neg (by omega)]
  by_cases h0 : len * te.size = 0
  · rw [if_pos h0]
    have e0 : (Array.range (len * te.size)).map ((#[] : Array Value)[· % (#[] : Array Value).size]!) = (Array.range (len * te.size)).map (z.cells[· % z.cells.size]!) := by rw [Array.eq_empty_of_size_eq_zero (xs := Array.map _ _) (by simp [h0]), Array.eq_empty_of_size_eq_zero (xs := Array.map _ _) (by simp [h0])]
    rw [e0, hfill]
    simp only [Sem.run_bind, newRow, run_newObj, Result.andThen_ok, Sem.run_pure]
    exact ⟨_, _, rfl, hpost⟩
  · rw [if_neg h0]
    simp only [Sem.run_bind, hz, Result.andThen_ok, Sem.run_pure]
    rw [hfill]
    simp only [Sem.run_bind, newRow, run_newObj, Result.andThen_ok, Sem.run_pure]
    exact ⟨_, _, rfl, hpost⟩
end
end Gp
