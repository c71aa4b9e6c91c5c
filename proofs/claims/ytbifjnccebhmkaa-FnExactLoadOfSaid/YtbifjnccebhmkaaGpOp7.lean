/- Gp, part 12: what is built: structs, slices made of parts or of zeros. -/
import Derived.Test.YtbifjnccebhmkaaGpOp6
import Derived.Laws.MakeOwn
set_option linter.unusedVariables false
set_option linter.unusedSimpArgs false
namespace Gp
open Go
section
variable {tab : Tab} {Γ : Gam} {ρ : Env} {tm : Array Value} {w w' : World} {C : Ctx} {kn : Kn} {Wr : CS} {w0 : World} {P : Program} {I : Nat → List T → List T → Prop} {G : Grd} {nx no : Nat}

theorem foldl_set_spec (off : Nat) : ∀ (l : List Value) (n : Nat) (cells : Array Value), off + n + l.length ≤ cells.size →
    ((l.zipIdx n).foldl (fun cs p => cs.setIfInBounds (off + p.2) p.1) cells).size = cells.size ∧
    ∀ i : Nat, ((l.zipIdx n).foldl (fun cs p => cs.setIfInBounds (off + p.2) p.1) cells)[i]? = if off + n ≤ i ∧ i < off + n + l.length then l[i - (off + n)]? else cells[i]?
  | [], n, cells, _ => ⟨rfl, fun i => by simp; omega⟩
  | v :: l, n, cells, h => by
    simp only [List.length_cons] at h
    obtain ⟨h1, h2⟩ := foldl_set_spec off l (n + 1) (cells.setIfInBounds (off + n) v) (by simp; omega)
    simp only [List.zipIdx_cons, List.foldl_cons]
    refine ⟨by rw [h1]; simp, fun i => ?_⟩
    rw [h2 i]
    by_cases e : i = off + n
    · subst e
      rw [if_neg (by omega), if_pos ⟨by omega, by simp⟩, Array.getElem?_setIfInBounds_self_of_lt (by omega)]
      simp
    · by_cases e2 : off + n ≤ i ∧ i < off + n + (v :: l).length
      · rw [if_pos (by simp at e2; omega), if_pos e2]
        obtain ⟨q, hq⟩ : ∃ q, i = off + n + 1 + q := ⟨i - (off + n + 1), by omega⟩
        subst hq
        rw [show off + n + 1 + q - (off + (n + 1)) = q by omega, show off + n + 1 + q - (off + n) = q + 1 by omega]
        simp
      · rw [if_neg (by simp at e2; omega), if_neg e2, Array.getElem?_setIfInBounds_ne (by omega)]

def fillL (place : Nat → Option (Nat × Nat)) (Γ : Gam) (G : Grd) : List Leaf → List (Nat × Operand) → Option (List Leaf)
  | ls, [] => some ls
  | ls, (i, x) :: r => match place i, (opd Γ G x).bind leavesOf with
    | some (off, size), some xs => if Nat.beq xs.length size && Nat.ble (off + size) ls.length then fillL place Γ G (ls.take off ++ xs ++ ls.drop (off + size)) r else none
    | _, _ => none

theorem fillL_sound (h : Rel tab Γ ρ tm w C kn Wr w0) (hG : holdsG ρ G) {place : Nat → Option (Nat × Nat)} {ds : List Deferred} : ∀ (parts : List (Nat × Operand)) {ls ls' : List Leaf} {cells : Array Value}, fillL place Γ G ls parts = some ls' → LeavesRel tab C kn.o ρ ls cells →
    ∃ cells', Instr.fill place cells (parts.map fun p => (p.1, Act.eval ⟨tm, ds⟩ p.2)) = some cells' ∧ LeavesRel tab C kn.o ρ ls' cells' ∧ cells'.size = cells.size
  | [], ls, ls', cells, hf, hl => by cases hf; exact ⟨cells, rfl, hl, rfl⟩
  | (i, x) :: r, ls, ls', cells, hf, hl => by
    simp only [fillL] at hf
    split at hf
    case h_2 => cases hf
    rename_i off size xs hp hx
    split at hf
    case isFalse => cases hf
    rename_i hc
    simp only [Bool.and_eq_true] at hc
    have hc1 := Nat.eq_of_beq_eq_true hc.1
    have hc2 := Nat.le_of_ble_eq_true hc.2
    cases hx0 : opd Γ G x with
    | none => rw [hx0] at hx; cases hx
    | some sv =>
      rw [hx0] at hx
      have hxs := leavesOf_sound hx (opd_sound h hG hx0 (ds := ds))
      obtain ⟨s1, s2⟩ := hxs
      obtain ⟨l1, l2⟩ := hl
      have hsz : (Act.eval ⟨tm, ds⟩ x).cells.size = size := by rw [s1, hc1]
      obtain ⟨f1, f2⟩ := foldl_set_spec off (Act.eval ⟨tm, ds⟩ x).cells.toList 0 cells (by simp [hsz, l1]; omega)
      have hrel : LeavesRel tab C kn.o ρ (ls.take off ++ xs ++ ls.drop (off + size)) ((Act.eval ⟨tm, ds⟩ x).cells.zipIdx.foldl (fun cs (c, j) => cs.setIfInBounds (off + j) c) cells) := by
        have he : (Act.eval ⟨tm, ds⟩ x).cells.zipIdx.foldl (fun cs (c, j) => cs.setIfInBounds (off + j) c) cells = ((Act.eval ⟨tm, ds⟩ x).cells.toList.zipIdx 0).foldl (fun cs p => cs.setIfInBounds (off + p.2) p.1) cells := by
          rw [← Array.foldl_toList, Array.toList_zipIdx]
        rw [he]
        refine ⟨by rw [f1, l1]; simp; omega, fun q l hq => ?_⟩
        rw [f2 q]
        by_cases e : off + 0 ≤ q ∧ q < off + 0 + (Act.eval ⟨tm, ds⟩ x).cells.toList.length
        · rw [if_pos e]
          simp [hsz] at e
          rw [List.append_assoc, List.getElem?_append_right (by simp; omega), List.getElem?_append_left (by simp; omega)] at hq
          simp only [List.length_take] at hq
          rw [show q - min off ls.length = q - off by omega] at hq
          obtain ⟨u, u1, u2⟩ := s2 _ l hq
          exact ⟨u, by simpa using u1, u2⟩
        · rw [if_neg e]
          simp [hsz] at e
          refine l2 q l ?_
          by_cases e2 : q < off
          · rw [List.append_assoc, List.getElem?_append_left (by simp; omega), List.getElem?_take_of_lt e2] at hq
            exact hq
          · rw [List.getElem?_append_right (by simp; omega), List.getElem?_drop] at hq
            simp only [List.length_append, List.length_take] at hq
            rw [← hq]; congr 1; omega
      obtain ⟨cells', g1, g2, g3⟩ := fillL_sound h hG r hf hrel
      refine ⟨cells', ?_, g2, ?_⟩
      · simp only [List.map_cons, Instr.fill, hp]
        rw [if_neg (by simp [hsz, l1]; omega)]
        exact g1
      · rw [g3, ← hrel.1.symm, l1]; simp; omega

def Tab.place (tab : Tab) (s : TypeId) (f : Nat) : Option (Nat × Nat) := (tab.field s f).map fun (off, _, sz, _) => (off, sz)

theorem run_mapM_list {α β : Type} {f : α → Sem β} {g : α → β} : ∀ (l : List α), (∀ x ∈ l, (f x).run P w = .ok (g x) w) → (l.mapM f).run P w = .ok (l.map g) w
  | [], _ => by simp
  | x :: l, h => by
    rw [List.mapM_cons]
    simp only [Sem.run_bind, h x (by simp), Result.andThen_ok, run_mapM_list l (fun y hy => h y (by simp [hy])), Sem.run_pure, List.map_cons]
theorem run_mapM_arr {α β : Type} {f : α → Sem β} {g : α → β} (l : Array α) (h : ∀ x ∈ l, (f x).run P w = .ok (g x) w) : (l.mapM f).run P w = .ok (l.map g) w := by
  rw [Array.mapM_eq_mapM_toList]
  simp only [Sem.run_map, run_mapM_list l.toList (fun x hx => h x (by simpa using hx)), Result.andThen_ok]
  congr 1
  apply Array.ext'
  simp

def anBuild (tab : Tab) (Γ : Gam) (G : Grd) (nx no : Nat) (t : TypeId) (parts : Array (Nat × Operand)) : Option Res :=
  match tab.get t with
  | some ti => match ti.td with
    | .struct _ => (fillL (tab.place t) Γ G (ti.cks.map zeroLeaf) parts.toList).map fun ls => ⟨.s (.agg ls), [], [], nx, no⟩
    | _ => none
  | none => none
theorem fill_congr {p q : Nat → Option (Nat × Nat)} : ∀ (l : List (Nat × Value)) (cells : Array Value), (∀ x ∈ l, p x.1 = q x.1) → Instr.fill p cells l = Instr.fill q cells l
  | [], _, _ => rfl
  | (i, v) :: r, cells, h => by
    simp only [Instr.fill]
    rw [h (i, v) (by simp)]
    cases q i with
    | none => rfl
    | some x => simp only; split
                · rfl
                · exact fill_congr r _ fun y hy => h y (by simp [hy])
theorem fillL_place {place : Nat → Option (Nat × Nat)} : ∀ (parts : List (Nat × Operand)) {ls ls' : List Leaf}, fillL place Γ G ls parts = some ls' → ∀ p ∈ parts, (place p.1).isSome
  | [], _, _, _, p, hp => by simp at hp
  | (i, x) :: r, ls, ls', hf, p, hp => by
    simp only [fillL] at hf
    split at hf
    case h_2 => cases hf
    rename_i off size xs hpl hx
    split at hf
    case isFalse => cases hf
    rcases List.mem_cons.1 hp with rfl | hp
    · simp only; rw [hpl]; rfl
    · exact fillL_place r hf p hp

theorem anBuild_sound (hT : TabOk P tab) (h : Rel tab Γ ρ tm w C kn Wr w0) (hG : holdsG ρ G) {t : TypeId} {parts : Array (Nat × Operand)} {r : Res} (hr : anBuild tab Γ G nx no t parts = some r) {ds : List Deferred}
    {dst : Option Tmp} {ty : TypeId} {pos : String} {aft : Array Edge} {gd : Option (Nat × Bool)} :
    Yield P (execOp (Act.eval ⟨tm, ds⟩) ⟨dst, .build t parts, ty, pos, aft, gd⟩) w fun v w' => Post tab Γ ρ tm C kn Wr w0 nx no r v w' := by
  unfold anBuild at hr
  split at hr
  case h_2 => cases hr
  rename_i ti hti
  split at hr
  case h_2 => cases hr
  rename_i fs hfs
  cases hf : fillL (tab.place t) Γ G (ti.cks.map zeroLeaf) parts.toList with
  | none => rw [hf] at hr; cases hr
  | some ls =>
    rw [hf] at hr; cases hr
    obtain ⟨z, hz, hzs, _⟩ := run_zeroValue (w := w) hT hti
    obtain ⟨cells', g1, g2, _⟩ := fillL_sound h hG parts.toList hf (zeros_sound (ρ := ρ) (C := C) (k := kn.o) hzs) (ds := ds)
    obtain ⟨gs, hu, hgs⟩ := und_struct hT hti hfs
    have hpl := fillL_place parts.toList hf
    -- every field of the struct has its size in the table
    have hfield : ∀ f g, gs[f]? = some g → ∃ tj, tab.get g.type = some tj ∧ tab.place t f = some (g.offset, tj.size) := by
      intro f g hg
      have hff : fs[f]? = some (g.offset, g.type) := by
        rw [← hgs, List.getElem?_map]
        have : gs.toList[f]? = some g := by simpa using hg
        rw [this]; rfl
      obtain ⟨gs', g', tj, s1, s2, s3, s4, s5, s6, _⟩ := struct_field hT hti hfs hff
      refine ⟨tj, s5, ?_⟩
      simp only [Tab.place, Tab.field, hti, hfs, hff, s5, Option.map_some]
    let gz : Field → Nat × Nat := fun f => (f.offset, tab.sz f.type)
    have hmapM : (gs.mapM fun (f : Field) => (do pure (f.offset, ← Go.sizeOf f.type) : Sem (Nat × Nat))).run P w = .ok (gs.map gz) w := by
      refine run_mapM_arr gs fun f hf => ?_
      obtain ⟨i, hi⟩ := Array.mem_iff_getElem?.1 hf
      obtain ⟨tj, t1, _⟩ := hfield i f hi
      have hsz : tab.sz f.type = tj.size := by simp [Tab.sz, t1]
      simp only [Sem.run_bind, run_sizeOf hT t1, Result.andThen_ok, Sem.run_pure, gz, hsz]
    have hfill : Instr.fill ((gs.map gz)[·]?) z.cells (parts.map fun (i, x) => (i, Act.eval ⟨tm, ds⟩ x)).toList = some cells' := by
      have e1 : (parts.map fun (i, x) => (i, Act.eval ⟨tm, ds⟩ x)).toList = parts.toList.map fun p => (p.1, Act.eval ⟨tm, ds⟩ p.2) := by simp
      rw [e1]
      refine (fill_congr _ _ fun x hx => ?_).trans g1
      obtain ⟨p, hp, rfl⟩ := List.mem_map.1 hx
      have hs := hpl p hp
      simp only [Array.getElem?_map]
      cases hg : gs[p.1]? with
      | none =>
        exfalso
        have : fs[p.1]? = none := by
          rw [← hgs, List.getElem?_map]
          have : gs.toList[p.1]? = none := by simpa using hg
          rw [this]; rfl
        simp [Tab.place, Tab.field, hti, hfs, this] at hs
      | some g =>
        obtain ⟨tj, t1, t2⟩ := hfield p.1 g hg
        rw [t2]
        have hsz : tab.sz g.type = tj.size := by simp [Tab.sz, t1]
        simp [gz, hsz]
    unfold Yield
    simp only [execOp, Instr.build, Sem.run_bind, hz, Result.andThen_ok, underlying, run_program, hu, Sem.run_pure, hmapM, hfill]
    exact ⟨_, _, rfl, Post.pure h rfl ⟨_, rfl, g2⟩⟩
end
end Gp
