/- Gp, part 9: variables in memory: made, read, written. -/
import Derived.Test.YtbifjnccebhmkaaGpOp3
import Derived.Laws.Cells
set_option linter.unusedVariables false
set_option linter.unusedSimpArgs false
namespace Gp
open Go
section
variable {tab : Tab} {Γ : Gam} {ρ : Env} {tm : Array Value} {w : World} {C : Ctx} {kn : Kn} {Wr : CS} {w0 : World} {P : Program} {I : Nat → List T → List T → Prop} {G : Grd} {nx no : Nat}

theorem heap_new (w : World) (o : Go.Obj) : (w.alloc o).heap[w.heap.size]? = some o := heap_alloc_new w o
theorem cellAt_new (w : World) (cs : Array Value) (t : TypeId) (x : Nat) : cellAt (w.alloc (.cells cs t)) w.heap.size x = cs[x]? := by
  simp only [cellAt, World.cell?, heap_new]; rfl
theorem frozenAt_new (w : World) (cs : Array Value) (t : TypeId) (x : Nat) : frozenAt (w.alloc (.cells cs t)) w.heap.size x = false := by
  simp only [frozenAt, World.frozen?, heap_new]
  simp

theorem Rel.old (h : Rel tab Γ ρ tm w C kn Wr w0) {o : Nat} {g : Grd} {ob : Obj} (ho : Γ.obj o = some (g, ob)) (hg : holdsG ρ g) (hv : ob.isView = false) {b x : Nat} (hf : C.F o b x) : b < w.heap.size :=
  ((h.obs o g ob ho).2.2 hg).lt hv hf

/-- A new variable in memory. -/
theorem Rel.newBox (h : Rel tab Γ ρ tm w C kn Wr w0) {cells : List Leaf} {vs : Array Value} {et : TypeId} (hl : LeavesRel tab C kn.o ρ cells vs) (hno : ¬ kn.o no) :
    Rel tab (Γ.setOb no (G, .box true cells)) ρ tm (w.alloc (.cells vs et)) (C.set no (some ⟨w.heap.size, 0, none⟩) 0 0 (Rng w.heap.size 0 cells.length)) (kn.addO no) Wr w0 := by
  have hg := h.grows (Grows.push w (.cells vs et))
  have hne : ∀ o', kn.o o' → o' ≠ no := fun o' h1 e => hno (e ▸ h1)
  refine hg.addOb hno trivial (fun _ => ?_) (fun _ _ o' g' ob' ho' hg' hv' => ?_) (fun _ _ o' g' ob' ho' hg' hv' => ?_) (fun _ _ b x hf => ?_)
  · refine ⟨w.heap.size, 0, Ctx.set_self.1, Ctx.set_self.2.2.2, fun j l hj => ?_, fun _ x _ => frozenAt_new ..⟩
    obtain ⟨u, hu, hr⟩ := hl.2 j l hj
    refine ⟨u, by rw [cellAt_new]; simpa using hu, hr.mono (fun _ => .inl) fun o' ho' => ⟨(Ctx.set_ne (hne o' ho')).1, (Ctx.set_ne (hne o' ho')).2.1, (Ctx.set_ne (hne o' ho')).2.2.1⟩⟩
  · rintro b x ⟨rfl, _, _⟩ hf
    exact absurd (h.old ho' hg' hv' hf) (by omega)
  · rintro b x hf ⟨rfl, _, _⟩
    exact absurd (h.old ho' hg' (by cases ob' <;> simp_all [Obj.owned, Obj.isView]) hf) (by omega)
  · obtain ⟨rfl, _, _⟩ := hf
    exact .inr h.frm.size

theorem Post.newBox (h : Rel tab Γ ρ tm w C kn Wr w0) {cells : List Leaf} {vs : Array Value} {et : TypeId} (hl : LeavesRel tab C kn.o ρ cells vs) (hno : ¬ kn.o no) :
    Post tab Γ ρ tm C kn Wr w0 nx no ⟨.s (.one (.pb no 0)), [(no, some (G, .box true cells))], [], nx, no + 1⟩ (.pointer (some ⟨w.heap.size, 0, none⟩)) (w.alloc (.cells vs et)) :=
  ⟨_, _, h.newBox hl hno, ⟨⟨.inr rfl, w.heap.size, 0, Ctx.set_self.1, rfl⟩, fun cs => by simp⟩, Ext.set hno (Kn.le_addO _ _),
    fun o ho => ho.imp id fun e => by simp only at e ⊢; omega, fun x hx => .inl hx⟩

def leavesOf : SV → Option (List Leaf)
  | .s (.one l) => some [l]
  | .s (.agg ls) => some ls
  | .tup _ => none
theorem leavesOf_sound {k : Nat → Prop} {sv : SV} {ls : List Leaf} {v : Value} (h : leavesOf sv = some ls) (hv : SVRel tab C k ρ sv v) : LeavesRel tab C k ρ ls v.cells := by
  cases sv with
  | tup => cases h
  | s x =>
    cases x with
    | one l =>
      cases h
      obtain ⟨h1, h2⟩ := hv
      have : v.cells = #[v] := by cases v <;> first | rfl | exact absurd rfl (h2 _)
      rw [this]
      refine ⟨rfl, fun i l' hi => ?_⟩
      cases i with
      | zero => simp at hi; subst hi; exact ⟨v, rfl, h1⟩
      | succ i => simp at hi
    | agg ls' =>
      cases h
      obtain ⟨vs, rfl, h2⟩ := hv
      exact h2

def anBox (Γ : Gam) (G : Grd) (nx no : Nat) (x : Operand) : Option Res :=
  match (opd Γ G x).bind leavesOf with
  | some ls => some ⟨.s (.one (.pb no 0)), [(no, some (G, .box true ls))], [], nx, no + 1⟩
  | none => none
theorem anBox_sound (h : Rel tab Γ ρ tm w C kn Wr w0) (hG : holdsG ρ G) {et : TypeId} {x : Operand} {r : Res} (hr : anBox Γ G nx no x = some r) (hf : ∀ o, no ≤ o → o < r.no → ¬ kn.o o) {ds : List Deferred}
    {dst : Option Tmp} {ty : TypeId} {pos : String} {aft : Array Edge} {gd : Option (Nat × Bool)} :
    Yield P (execOp (Act.eval ⟨tm, ds⟩) ⟨dst, .box et x, ty, pos, aft, gd⟩) w fun v w' => Post tab Γ ρ tm C kn Wr w0 nx no r v w' := by
  unfold anBox at hr
  split at hr
  case h_2 => cases hr
  rename_i ls hl
  cases hr
  cases hx : opd Γ G x with
  | none => rw [hx] at hl; cases hl
  | some sv =>
    rw [hx] at hl
    have hls := leavesOf_sound hl (opd_sound h hG hx (ds := ds))
    unfold Yield
    simp only [execOp, Instr.box, newVar, newRow, Sem.run_bind, run_newObj, Result.andThen_ok, Sem.run_pure]
    exact ⟨_, _, rfl, Post.newBox h hls (hf no (Nat.le_refl _) (by simp))⟩

def zeroLeaf : CK → Leaf
  | .int k => .int k (.int 0)
  | .bool => .bool (.bool false)
  | .str => .str (.str [])
  | .sl _ => .nil
  | _ => .dead
theorem zeroLeaf_sound {k : Nat → Prop} {ck : CK} {v : Value} (h : zeroIs ck v = true) : LeafRel tab C k ρ (zeroLeaf ck) v := by
  cases ck with
  | int q =>
    cases v <;> simp [zeroIs] at h
    obtain ⟨h1, h2⟩ := h
    subst h1; subst h2; exact ⟨0, rfl, rfl⟩
  | bool =>
    cases v <;> simp [zeroIs] at h
    subst h; exact ⟨false, rfl, rfl⟩
  | str =>
    cases v with
    | string s =>
      have hs : s.data.size = 0 := by simpa only [zeroIs, beq_iff_eq] using h
      have hd : s.data = #[] := Array.eq_empty_of_size_eq_zero hs
      refine ⟨s, ?_, rfl⟩
      cases s with
      | mk d => simp only at hd; subst hd; rfl
    | _ => simp [zeroIs] at h
  | sl e =>
    cases v with
    | slice a n c =>
      cases a <;> cases n <;> cases c <;> simp [zeroIs] at h
      rfl
    | _ => simp [zeroIs] at h
  | _ => trivial
theorem zeros_sound {k : Nat → Prop} {cs : List CK} {vs : Array Value} (h : zerosAre cs vs.toList = true) : LeavesRel tab C k ρ (cs.map zeroLeaf) vs := by
  obtain ⟨h1, h2⟩ := zerosAre_get h
  refine ⟨by simpa using h1, fun i l hl => ?_⟩
  rw [List.getElem?_map] at hl
  cases hc : cs[i]? with
  | none => rw [hc] at hl; cases hl
  | some c =>
    rw [hc] at hl; cases hl
    obtain ⟨v, h3, h4⟩ := h2 i c hc
    exact ⟨v, by simpa using h3, zeroLeaf_sound h4⟩

theorem run_zeroValue (hT : TabOk P tab) {t : TypeId} {ti : TI} (h : tab.get t = some ti) : ∃ z, (zeroValue t).run P w = .ok z w ∧ zerosAre ti.cks z.cells.toList = true ∧ isAggV z = ti.agg := by
  obtain ⟨i, z, h1, _, _, h2, h3, h4⟩ := (hT t ti h).inf
  refine ⟨z, ?_, h3, h4⟩
  simp only [zeroValue, typeInfo, Sem.run_bind, run_program, Result.andThen_ok, h1, Sem.run_pure, h2]

def anAlloc (tab : Tab) (G : Grd) (nx no : Nat) (t : TypeId) : Option Res :=
  (tab.get t).map fun ti => ⟨.s (.one (.pb no 0)), [(no, some (G, .box true (ti.cks.map zeroLeaf)))], [], nx, no + 1⟩
theorem anAlloc_sound (hT : TabOk P tab) (h : Rel tab Γ ρ tm w C kn Wr w0) {t : TypeId} {r : Res} (hr : anAlloc tab G nx no t = some r) (hf : ∀ o, no ≤ o → o < r.no → ¬ kn.o o) {ds : List Deferred}
    {dst : Option Tmp} {ty : TypeId} {pos : String} {aft : Array Edge} {gd : Option (Nat × Bool)} :
    Yield P (execOp (Act.eval ⟨tm, ds⟩) ⟨dst, .alloc t, ty, pos, aft, gd⟩) w fun v w' => Post tab Γ ρ tm C kn Wr w0 nx no r v w' := by
  unfold anAlloc at hr
  cases ht : tab.get t with
  | none => rw [ht] at hr; cases hr
  | some ti =>
    rw [ht] at hr; cases hr
    obtain ⟨z, hz, hzs, _⟩ := run_zeroValue (w := w) hT ht
    unfold Yield
    simp only [execOp, Instr.alloc, Sem.run_bind, hz, Result.andThen_ok, newVar, newRow, run_newObj, Sem.run_pure]
    exact ⟨_, _, rfl, Post.newBox h (zeros_sound hzs) (hf no (Nat.le_refl _) (by simp))⟩

theorem run_loadCells_at {b o n : Nat} {f : Nat → Value} (h : ∀ j, j < n → cellAt w b (o + j) = some (f j)) :
    (loadCells ⟨b, o, none⟩ n).run P w = .ok ((List.range n).map f).toArray w :=
  run_loadCells w ⟨b, o, none⟩ n f fun j hj => by rw [add_addr]; exact h j hj

/-- Cells read as leaves: what the load of a variable answers. -/
def svOf (ag : Bool) (ls : List Leaf) : Option SV :=
  if ag then some (.s (.agg ls)) else match ls with
    | [.dead] => none
    | [l] => some (.s (.one l))
    | _ => none

theorem run_load_leaves (hT : TabOk P tab) {t : TypeId} {ti : TI} (ht : tab.get t = some ti) {b o : Nat} {ls : List Leaf} {k : Nat → Prop} {sv : SV} (hsv : svOf ti.agg ls = some sv) (hlen : ls.length = ti.size)
    (h : ∀ (j : Nat) l, ls[j]? = some l → ∃ v, cellAt w b (o + j) = some v ∧ LeafRel tab C k ρ l v) :
    ∃ v, (Instr.loadAt t (.pointer (some ⟨b, o, none⟩))).run P w = .ok v w ∧ SVRel tab C k ρ sv v := by
  simp only [Instr.loadAt, Instr.sureAddr, loadVar, Sem.run_bind, Sem.run_pure, Result.andThen_ok, run_isAgg hT ht, Sem.run_ite]
  unfold svOf at hsv
  by_cases ha : ti.agg = true
  · rw [if_pos ha] at hsv ⊢
    cases hsv
    have hch : ∀ j, ∃ v, j < ti.size → cellAt w b (o + j) = some v ∧ ∀ l, ls[j]? = some l → LeafRel tab C k ρ l v := by
      intro j
      by_cases hj : j < ti.size
      · obtain ⟨l, hl⟩ : ∃ l, ls[j]? = some l := ⟨_, List.getElem?_eq_getElem (by omega)⟩
        obtain ⟨v, h1, h2⟩ := h j l hl
        exact ⟨v, fun _ => ⟨h1, fun l' hl' => by rw [hl] at hl'; cases hl'; exact h2⟩⟩
      · exact ⟨undef, fun h => absurd h hj⟩
    let f : Nat → Value := fun j => Classical.choose (hch j)
    have hf : ∀ j, j < ti.size → cellAt w b (o + j) = some (f j) ∧ ∀ l, ls[j]? = some l → LeafRel tab C k ρ l (f j) := fun j => Classical.choose_spec (hch j)
    simp only [Sem.run_bind, run_sizeOf hT ht, Result.andThen_ok, run_loadCells_at (fun j hj => (hf j hj).1), Sem.run_pure]
    refine ⟨_, rfl, _, rfl, by simp [hlen], fun j l hl => ?_⟩
    have hj := List.getD_some_lt hl
    exact ⟨f j, by simp [hlen ▸ hj], (hf j (by omega)).2 l hl⟩
  · rw [if_neg ha] at hsv ⊢
    split at hsv
    · cases hsv
    · rename_i l hne
      cases hsv
      obtain ⟨v, h1, h2⟩ := h 0 l rfl
      rw [run_load]
      have : w.cell? ⟨b, o, none⟩ = some v := h1
      rw [this]
      exact ⟨v, rfl, h2, h2.notAgg hne⟩
    · cases hsv

end
end Gp
