/- Gp, part 21: what a call leaves, proved. -/
import Derived.Test.YtbifjnccebhmkaaGpCall2
set_option linter.unusedVariables false
set_option linter.unusedSimpArgs false
namespace Gp
open Go

theorem sgArgs_spec {sg : List (Nat × Exp)} : ∀ {n x : Nat} {es : List Exp}, sgArgs sg n x = some es → es.length = n ∧ ∀ j, j < n → ∃ e, look (x + j) sg = some e ∧ es[j]? = some e
  | 0, x, es, h => by cases h; exact ⟨rfl, fun j hj => by omega⟩
  | n + 1, x, es, h => by
    simp only [sgArgs] at h
    split at h
    · rename_i e es' h1 h2
      cases h
      obtain ⟨h3, h4⟩ := sgArgs_spec h2
      refine ⟨by simp [h3], fun j hj => ?_⟩
      cases j with
      | zero => exact ⟨e, h1, rfl⟩
      | succ j =>
        obtain ⟨e', h5, h6⟩ := h4 j (by omega)
        exact ⟨e', by rw [← h5]; congr 1; omega, by simpa using h6⟩
    · cases h

theorem newAt_lt {obs : Obs} : ∀ {l : List (Nat × Obj)} {n o q : Nat}, newAt obs l n o = some q → n ≤ q ∧ q < n + newCount obs l
  | [], n, o, q, h => by simp [newAt] at h
  | (k, x) :: r, n, o, q, h => by
    simp only [newAt] at h
    simp only [newCount]
    split at h
    · rename_i hs; rw [if_pos hs]; exact newAt_lt h
    · rename_i hs
      rw [if_neg hs]
      split at h
      · cases h; omega
      · have := newAt_lt h; omega
theorem newAt_inj {obs : Obs} : ∀ {l : List (Nat × Obj)} {n o1 o2 q : Nat}, newAt obs l n o1 = some q → newAt obs l n o2 = some q → o1 = o2
  | [], n, _, _, q, h, _ => by simp [newAt] at h
  | (k, x) :: r, n, o1, o2, q, h1, h2 => by
    simp only [newAt] at h1 h2
    split at h1
    · rename_i hs; rw [if_pos hs] at h2; exact newAt_inj h1 h2
    · rename_i hs
      rw [if_neg hs] at h2
      split at h1
      · rename_i e1
        split at h2
        · rename_i e2
          rw [← Nat.eq_of_beq_eq_true e1, ← Nat.eq_of_beq_eq_true e2]
        · cases h1; have := newAt_lt h2; omega
      · split at h2
        · cases h2; have := newAt_lt h1; omega
        · exact newAt_inj h1 h2
theorem newAt_key {obs : Obs} : ∀ {l : List (Nat × Obj)} {n o q : Nat}, newAt obs l n o = some q → look o obs = none ∧ ∃ ob, look o l = some ob
  | [], n, o, q, h => by simp [newAt] at h
  | (k, x) :: r, n, o, q, h => by
    simp only [newAt] at h
    by_cases e : k = o
    · subst e
      split at h
      · rename_i hs
        have := (newAt_key h).1
        rw [this] at hs; cases hs
      · rename_i hs
        exact ⟨by cases hq : look k obs with | none => rfl | some y => rw [hq] at hs; simp at hs, x, look_cons_self⟩
    · rw [look_cons_ne e]
      split at h
      · exact newAt_key h
      · rw [if_neg (by simpa using e)] at h; exact newAt_key h

/-- What one back object is. -/
inductive BackIs (S : Sig) (G : Grd) (th : List (Nat × Ref)) (no z : Nat) (q o' : Nat) : Obj → Grd → Obj → Prop where
  | row {off len : Exp} {et : TypeId} {y : Nat} {x : Obj} : look o' S.obs = some x → x.owned = true → look o' th = some (.sl q off len) → y < S.nout → BackIs S G th no z q o' (.row true et (.var y)) [] (.row true et (.var (z + y)))
  | box {cells cs : List Leaf} {x : Obj} : look o' S.obs = some x → x.owned = true → look o' th = some (.bx q) → cells.mapM (backLeaf S th no z) = some cs → BackIs S G th no z q o' (.box true cells) [] (.box true cs)
  | new {et : TypeId} {y : Nat} : look o' S.obs = none → newAt S.obs S.oobs no o' = some q → y < S.nout → BackIs S G th no z q o' (.row true et (.var y)) G (.row true et (.var (z + y)))

theorem backOb_spec {S : Sig} {G : Grd} {th : List (Nat × Ref)} {no z o' : Nat} {ob : Obj} {q o2 : Nat} {g : Grd} {x : Obj} (h : backOb S G th no z o' ob = some (some (q, o2, g, x))) : o2 = o' ∧ BackIs S G th no z q o' ob g x := by
  unfold backOb at h
  split at h
  · rename_i y hy
    split at h
    case isFalse => cases h
    rename_i how
    split at h
    · rename_i o off len et v ht
      split at h
      · rename_i hv; cases h; exact ⟨rfl, .row hy how ht (Nat.le_of_ble_eq_true hv)⟩
      · cases h
    · cases h
    · rename_i o cells ht
      split at h
      · rename_i cs hc; cases h; exact ⟨rfl, .box hy how ht hc⟩
      · cases h
    · cases h
  · rename_i hy
    split at h
    · rename_i et v n hn
      split at h
      · rename_i hv; cases h; exact ⟨rfl, .new hy hn (Nat.le_of_ble_eq_true hv)⟩
      · cases h
    · cases h

theorem backObs_spec {S : Sig} {G : Grd} {th : List (Nat × Ref)} {no z : Nat} : ∀ {l : List (Nat × Obj)} {L : BackL}, backObs S G th no z l = some L → ∀ q o' g x, (q, o', g, x) ∈ L → ∃ ob, (o', ob) ∈ l ∧ BackIs S G th no z q o' ob g x
  | [], L, h, q, o', g, x, hm => by cases h; simp at hm
  | (k, ob) :: r, L, h, q, o', g, x, hm => by
    simp only [backObs] at h
    split at h
    · rename_i y l h1 h2
      cases h
      rcases List.mem_cons.1 hm with e | hm
      · subst e
        obtain ⟨rfl, h3⟩ := backOb_spec h1
        exact ⟨ob, by simp, h3⟩
      · obtain ⟨ob', h3, h4⟩ := backObs_spec h2 q o' g x hm
        exact ⟨ob', List.mem_cons_of_mem _ h3, h4⟩
    · rename_i l h1 h2
      cases h
      obtain ⟨ob', h3, h4⟩ := backObs_spec h2 q o' g x hm
      exact ⟨ob', List.mem_cons_of_mem _ h3, h4⟩
    · cases h

theorem keysNodup_look {l : List (Nat × Obj)} (hn : keysNodup l = true) : ∀ {o : Nat} {ob : Obj}, (o, ob) ∈ l → look o l = some ob := by
  induction l with
  | nil => intro o ob h; simp at h
  | cons p l ih =>
    obtain ⟨k, x⟩ := p
    intro o ob hm
    simp only [keysNodup, Bool.and_eq_true] at hn
    rcases List.mem_cons.1 hm with e | hm
    · cases e; exact look_cons_self
    · have hl := ih hn.2 hm
      have : k ≠ o := by
        rintro rfl
        rw [hl] at hn; simp at hn
      rw [look_cons_ne this]; exact hl

theorem look_map {α β : Type} (f : α → β) (k : Nat) : ∀ l : List (Nat × α), look k (l.map fun p => (p.1, f p.2)) = (look k l).map f
  | [] => rfl
  | (q, x) :: r => by
    simp only [List.map_cons, look]
    split
    · rfl
    · exact look_map f k r

section
variable {tab : Tab} {Γ : Gam} {ρ ρ' : Env} {tm : Array Value} {w w' : World} {C C1 Cx : Ctx} {kn kn' : Kn} {Wr : CS} {w0 : World} {P : Program} {I : Nat → List T → List T → Prop} {G : Grd} {nx no nb : Nat} {obs : Obs} {S : Sig}

/-- Where things lie for the caller, after the call. -/
noncomputable def backCtx (kn : Kn) (C Cx : Ctx) (L : BackL) : Ctx :=
  open Classical in
  { A := fun q => if kn.o q then C.A q else match look q L with | some y => Cx.A y.1 | none => C.A q
    N := fun q => if kn.o q then C.N q else match look q L with | some y => Cx.N y.1 | none => C.N q
    K := fun q => if kn.o q then C.K q else match look q L with | some y => Cx.K y.1 | none => C.K q
    F := fun q => match look q L with | some y => Cx.F y.1 | none => C.F q }

theorem backBox_spec {th : List (Nat × Ref)} {c o : Nat} (h : backBox th c = some o) : look c th = some (.bx o) := by
  unfold backBox at h
  split at h
  · cases h; assumption
  · cases h

/-- The caller's view of where things lie fits the callee's. -/
structure BackOk (tab : Tab) (S : Sig) (th : List (Nat × Ref)) (no z : Nat) (outs : List T) (ρ : Env) (C Cx Cc : Ctx) (kn' : Kn) : Prop where
  vars : ∀ e : Exp, e.bnd S.nout = true → den ρ (e.shift z) = den (envOf outs) e
  sl : ∀ o' o off0 len0 rw et d, look o' S.obs = some (.row rw et d) → look o' th = some (.sl o off0 len0) → kn'.o o ∧ ∃ m0 n0 c0, den ρ off0 = .int (m0 : Nat) ∧ (den ρ len0 = .int (n0 : Nat) ∧ n0 ≤ c0 ∧ Cx.N o' = n0) ∧ Cx.K o' = c0 ∧ m0 + n0 ≤ Cc.N o ∧ m0 + c0 = Cc.K o ∧
      (c0 = 0 ∨ ∃ b base, Cc.A o = some ⟨b, base, none⟩ ∧ Cx.A o' = some ⟨b, base + m0 * tab.sz et, none⟩)
  bx : ∀ o' o, look o' th = some (.bx o) → kn'.o o ∧ Cc.A o = Cx.A o'
  new : ∀ o' q, newAt S.obs S.oobs no o' = some q → kn'.o q ∧ Cc.A q = Cx.A o' ∧ Cc.N q = Cx.N o' ∧ Cc.K q = Cx.K o'

theorem backLeaf_sound {th : List (Nat × Ref)} {z : Nat} {outs : List T} {Cc : Ctx} (hb : BackOk tab S th no z outs ρ C Cx Cc kn') {k : Nat → Prop} {l l2 : Leaf} {v : Value} (hl : LeafRel tab Cx k (envOf outs) l v) (h : backLeaf S th no z l = some l2) :
    LeafRel tab Cc kn'.o ρ l2 v := by
  cases l with
  | dead => cases h; trivial
  | nil => cases h; exact hl
  | int kk e =>
    simp only [backLeaf] at h
    split at h
    · rename_i he; cases h
      obtain ⟨n, h1, h2⟩ := hl
      exact ⟨n, by rw [hb.vars e he]; exact h1, h2⟩
    · cases h
  | bool e =>
    simp only [backLeaf] at h
    split at h
    · rename_i he; cases h
      obtain ⟨n, h1, h2⟩ := hl
      exact ⟨n, by rw [hb.vars e he]; exact h1, h2⟩
    · cases h
  | str e =>
    simp only [backLeaf] at h
    split at h
    · rename_i he; cases h
      obtain ⟨n, h1, h2⟩ := hl
      exact ⟨n, by rw [hb.vars e he]; exact h1, h2⟩
    · cases h
  | sl o' et off len =>
    simp only [backLeaf] at h
    split at h
    case isFalse => cases h
    rename_i he
    simp only [Bool.and_eq_true] at he
    obtain ⟨he1, he2⟩ := he
    obtain ⟨hk, m, n, a, c, h1, h2, h3, h4, h5, h6, h7⟩ := hl
    have h1' : den ρ (off.shift z) = .int m := by rw [hb.vars off he1]; exact h1
    have h2' : den ρ (len.shift z) = .int n := by rw [hb.vars len he2]; exact h2
    split at h
    · rename_i rw et2 d ho
      split at h
      · rename_i o off0 len0 ht
        split at h
        case isFalse => cases h
        rename_i hee
        cases h
        subst hee
        obtain ⟨q1, m0, n0, c0, q2, ⟨_, _, q3⟩, q4, q5, q6, q7⟩ := hb.sl o' o off0 len0 rw et2 d ho ht
        refine ⟨q1, m0 + m, n, a, c, ?_, h2', h3, by omega, h5, by omega, ?_⟩
        · rw [plusE_den q2 h1']; simp
        · rcases h7 with h7 | ⟨b, base, h7, h8⟩
          · exact .inl h7
          · rcases q7 with q7 | ⟨b2, base2, q7, q8⟩
            · exact .inl (by omega)
            · rw [q8] at h7; cases h7
              refine .inr ⟨_, _, q7, ?_⟩
              rw [h8, Nat.add_mul]
              congr 2; omega
      · cases h; trivial
    · cases h; trivial
    · split at h
      · rename_i q hq
        cases h
        obtain ⟨q1, q2, q3, q4⟩ := hb.new o' q hq
        exact ⟨q1, m, n, a, c, h1', h2', h3, by rw [q3]; exact h4, h5, by rw [q4]; exact h6, by rw [q2]; exact h7⟩
      · cases h; trivial
  | slw o' et =>
    simp only [backLeaf] at h
    obtain ⟨hk, a, h3, h7⟩ := hl
    split at h
    · rename_i rw et2 d ho
      split at h
      · rename_i o off0 len0 ht
        split at h
        case isFalse => cases h
        rename_i hee
        cases h
        subst hee
        obtain ⟨q1, m0, n0, c0, q2, ⟨q8, q9, q3⟩, q4, q5, q6, q7⟩ := hb.sl o' o off0 len0 rw et2 d ho ht
        refine ⟨q1, m0, n0, a, c0, q2, q8, by rw [h3, q3, q4], q5, q9, q6, ?_⟩
        rcases h7 with h7 | ⟨b, base, h7, h8⟩
        · exact .inl (by omega)
        · rcases q7 with q7 | ⟨b2, base2, q7, q10⟩
          · exact .inl q7
          · rw [q10] at h7; cases h7
            exact .inr ⟨_, _, q7, h8⟩
      · cases h; trivial
    · cases h; trivial
    · split at h
      · rename_i q hq
        cases h
        obtain ⟨q1, q2, q3, q4⟩ := hb.new o' q hq
        exact ⟨q1, a, by rw [q3, q4]; exact h3, by rw [q2, q4]; exact h7⟩
      · cases h; trivial
  | pb o' j =>
    simp only [backLeaf] at h
    split at h
    · rename_i o ho
      cases h
      obtain ⟨q1, q2⟩ := hb.bx o' o (backBox_spec ho)
      obtain ⟨hk, b, base, h1, h2⟩ := hl
      exact ⟨q1, b, base, by rw [q2]; exact h1, h2⟩
    · cases h
  | pe => cases h
  | fn f caps =>
    simp only [backLeaf] at h
    split at h
    · rename_i cs hc
      cases h
      obtain ⟨vs, h1, h2, h3⟩ := hl
      obtain ⟨c1, c2⟩ := mapM_get hc
      refine ⟨vs, h1, by omega, fun i o hi => ?_⟩
      obtain ⟨c, h4, h5⟩ := c2 i o hi
      obtain ⟨hk, b, base, h6, h7⟩ := h3 i c h4
      obtain ⟨q1, q2⟩ := hb.bx c o (backBox_spec h5)
      exact ⟨q1, b, base, by rw [q2]; exact h6, h7⟩
    · cases h

theorem backLeaf_shape {th : List (Nat × Ref)} {z : Nat} {l l2 : Leaf} (h : backLeaf S th no z l = some l2) (hl : l2 ≠ .dead) : l ≠ .dead := by
  rintro rfl; cases h; exact hl rfl

theorem backS1_sound {th : List (Nat × Ref)} {z : Nat} {outs : List T} {Cc : Ctx} (hb : BackOk tab S th no z outs ρ C Cx Cc kn') {k : Nat → Prop} {x x2 : S1} {v : Value} (hl : S1Rel tab Cx k (envOf outs) x v) (h : backS1 S th no z x = some x2) :
    S1Rel tab Cc kn'.o ρ x2 v := by
  cases x with
  | one l =>
    simp only [backS1] at h
    split at h
    · cases h
    · rename_i l2 _ h2
      cases h
      exact ⟨backLeaf_sound hb hl.1 h2, hl.2⟩
    · cases h
  | agg ls =>
    simp only [backS1] at h
    split at h
    · rename_i ls2 h2
      cases h
      obtain ⟨vs, rfl, h3, h4⟩ := hl
      obtain ⟨c1, c2⟩ := mapM_get h2
      refine ⟨vs, rfl, by omega, fun i l hi => ?_⟩
      obtain ⟨l1, h5, h6⟩ := c2 i l hi
      obtain ⟨u, h7, h8⟩ := h4 i l1 h5
      exact ⟨u, h7, backLeaf_sound hb h8 h6⟩
    · cases h
end
end Gp
