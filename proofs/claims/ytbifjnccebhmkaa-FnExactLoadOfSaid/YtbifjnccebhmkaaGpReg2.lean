/- Gp, part 24: a region's operations in their order. -/
import Derived.Test.YtbifjnccebhmkaaGpReg
set_option linter.unusedVariables false
set_option linter.unusedSimpArgs false
namespace Gp
open Go

/-! ## Expressions are below the next variable -/
def gBnd (n : Nat) (g : Grd) : Bool := g.all fun x => x.1.bnd n
def Leaf.bnd (n : Nat) : Leaf → Bool
  | .int _ e => e.bnd n
  | .bool e => e.bnd n
  | .str e => e.bnd n
  | .sl _ _ off len => off.bnd n && len.bnd n
  | .pe _ _ i _ => i.bnd n
  | _ => true
def S1.bnd (n : Nat) : S1 → Bool
  | .one l => l.bnd n
  | .agg ls => ls.all (Leaf.bnd n)
def SV.bnd (n : Nat) : SV → Bool
  | .s x => x.bnd n
  | .tup xs => xs.all (S1.bnd n)
def Obj.bnd (n : Nat) : Obj → Bool
  | .row _ _ d => d.bnd n
  | .view _ pd i _ _ d => pd.bnd n && i.bnd n && d.bnd n
  | .box _ cells => cells.all (Leaf.bnd n)
def Gam.bnd (n : Nat) (Γ : Gam) : Bool := Γ.tm.all (fun x => gBnd n x.2.1 && x.2.2.bnd n) && Γ.ob.all (fun x => gBnd n x.2.1 && x.2.2.bnd n)

/-- Steps of a pure program set each variable once, in order. -/
def SI.ssa (n : Nat) : SI → Option Nat
  | .set x e => if Nat.beq x n && e.bnd n then some (n + 1) else none
  | .mov x es => if Nat.beq x n && es.all (Exp.bnd n) then some (n + es.length) else none
  | .chk e => if e.bnd n then some n else none
  | .call _ args x k => if Nat.beq x n && args.all (Exp.bnd n) then some (n + k) else none
def ssaL : Nat → List (Grd × SI) → Option Nat
  | n, [] => some n
  | n, (g, s) :: l => if gBnd n g then match s.ssa n with
    | some m => ssaL m l
    | none => none
    else none

section
variable {tab : Tab} {Γ : Gam} {ρ ρ' : Env} {tm : Array Value} {w w' : World} {C C1 Cx : Ctx} {kn kn' : Kn} {Wr : CS} {w0 : World} {P : Program} {G : Grd} {nx no nb : Nat} {obs : Obs} {S : Sig} {sigs : List Sig}

theorem gBnd_agree {n : Nat} (h : Agree n ρ ρ') {g : Grd} (hb : gBnd n g = true) : holdsG ρ' g ↔ holdsG ρ g := by
  simp only [gBnd, List.all_eq_true] at hb
  rw [holdsG_iff, holdsG_iff]
  exact ⟨fun k x hx => by rw [← den_agree h _ (hb x hx)]; exact k x hx, fun k x hx => by rw [den_agree h _ (hb x hx)]; exact k x hx⟩

theorem Leaf.agree {n : Nat} (h : Agree n ρ ρ') {l : Leaf} (hb : l.bnd n = true) {k : Nat → Prop} {v : Value} (hl : LeafRel tab C k ρ l v) : LeafRel tab C k ρ' l v := by
  cases l with
  | dead => trivial
  | int kk e => obtain ⟨m, h1, h2⟩ := hl; exact ⟨m, by rw [den_agree h e hb]; exact h1, h2⟩
  | bool e => obtain ⟨m, h1, h2⟩ := hl; exact ⟨m, by rw [den_agree h e hb]; exact h1, h2⟩
  | str e => obtain ⟨m, h1, h2⟩ := hl; exact ⟨m, by rw [den_agree h e hb]; exact h1, h2⟩
  | sl o et off len =>
    simp only [Leaf.bnd, Bool.and_eq_true] at hb
    obtain ⟨hk, m, n, a, c, h1, h2, h3⟩ := hl
    exact ⟨hk, m, n, a, c, by rw [den_agree h _ hb.1]; exact h1, by rw [den_agree h _ hb.2]; exact h2, h3⟩
  | slw => exact hl
  | nil => exact hl
  | pb => exact hl
  | pe o et i j =>
    obtain ⟨hk, m, b, base, h1, h2⟩ := hl
    exact ⟨hk, m, b, base, by rw [den_agree h i hb]; exact h1, h2⟩
  | fn => exact hl
theorem S1.agree {n : Nat} (h : Agree n ρ ρ') {x : S1} (hb : x.bnd n = true) {k : Nat → Prop} {v : Value} (hl : S1Rel tab C k ρ x v) : S1Rel tab C k ρ' x v := by
  cases x with
  | one l => exact ⟨Leaf.agree h hb hl.1, hl.2⟩
  | agg ls =>
    simp only [S1.bnd, List.all_eq_true] at hb
    obtain ⟨vs, h1, h2, h3⟩ := hl
    refine ⟨vs, h1, h2, fun i l hi => ?_⟩
    obtain ⟨u, h4, h5⟩ := h3 i l hi
    exact ⟨u, h4, Leaf.agree h (hb l (List.mem_of_getElem? hi)) h5⟩
theorem SV.agree {n : Nat} (h : Agree n ρ ρ') {x : SV} (hb : x.bnd n = true) {k : Nat → Prop} {v : Value} (hl : SVRel tab C k ρ x v) : SVRel tab C k ρ' x v := by
  cases x with
  | s x => exact S1.agree h hb hl
  | tup xs =>
    simp only [SV.bnd, List.all_eq_true] at hb
    obtain ⟨vs, h1, h2, h3⟩ := hl
    refine ⟨vs, h1, h2, fun i l hi => ?_⟩
    obtain ⟨u, h4, h5⟩ := h3 i l hi
    exact ⟨u, h4, S1.agree h (hb l (List.mem_of_getElem? hi)) h5⟩

theorem Gam.bnd_tm {n : Nat} (hb : Γ.bnd n = true) {t : Nat} {g : Grd} {sv : SV} (ht : Γ.get t = some (g, sv)) : gBnd n g = true ∧ sv.bnd n = true := by
  simp only [Gam.bnd, Bool.and_eq_true, List.all_eq_true] at hb
  have := hb.1 _ (look_mem ht)
  simpa using this
theorem Gam.bnd_ob {n : Nat} (hb : Γ.bnd n = true) {o : Nat} {g : Grd} {ob : Obj} (ht : Γ.obj o = some (g, ob)) : gBnd n g = true ∧ ob.bnd n = true := by
  simp only [Gam.bnd, Bool.and_eq_true, List.all_eq_true] at hb
  have := hb.2 _ (look_mem ht)
  simpa using this

theorem Rel.agree (h : Rel tab Γ ρ tm w C kn Wr w0) {n : Nat} (ha : Agree n ρ ρ') (hb : Γ.bnd n = true) : Rel tab Γ ρ' tm w C kn Wr w0 where
  tms t g sv ht := by
    obtain ⟨h1, h2⟩ := h.tms t g sv ht
    obtain ⟨b1, b2⟩ := Gam.bnd_tm hb ht
    rw [gBnd_agree ha b1]
    exact ⟨fun hg => SV.agree ha b2 (h1 hg), h2⟩
  obs o g ob ho := by
    obtain ⟨h1, h2, h3⟩ := h.obs o g ob ho
    obtain ⟨b1, b2⟩ := Gam.bnd_ob hb ho
    rw [gBnd_agree ha b1]
    refine ⟨h1, h2, fun hg => ?_⟩
    have hr := h3 hg
    cases ob with
    | row dp et d =>
      obtain ⟨rows, r1, r2⟩ := hr
      exact ⟨rows, by rw [den_agree ha d b2]; exact r1, r2⟩
    | view par pd i j et d =>
      simp only [Obj.bnd, Bool.and_eq_true] at b2
      intro gp pet hp hgp
      rw [gBnd_agree ha (Gam.bnd_ob hb hp).1] at hgp
      obtain ⟨m, b, base, rows, a1, a2, a3, a4, a5, a6⟩ := hr gp pet hp hgp
      exact ⟨m, b, base, rows, by rw [den_agree ha _ b2.1.2]; exact a1, a2, a3, by rw [den_agree ha _ b2.1.1]; exact a4, a5.imp id (fun ⟨rs, c1, c2⟩ => ⟨rs, by rw [den_agree ha _ b2.2]; exact c1, c2⟩), a6⟩
    | box rw' cells =>
      simp only [Obj.bnd, List.all_eq_true] at b2
      obtain ⟨b, base, r1, r2, r3, r4⟩ := hr
      refine ⟨b, base, r1, r2, fun j l hj => ?_, r4⟩
      obtain ⟨v, v1, v2⟩ := r3 j l hj
      exact ⟨v, v1, Leaf.agree ha (b2 l (List.mem_of_getElem? hj)) v2⟩
  dis o o' g g' ob ob' ho ho' hg hg' := by
    rw [gBnd_agree ha (Gam.bnd_ob hb ho).1] at hg
    rw [gBnd_agree ha (Gam.bnd_ob hb ho').1] at hg'
    exact h.dis o o' g g' ob ob' ho ho' hg hg'
  own o g ob ho hg := by
    rw [gBnd_agree ha (Gam.bnd_ob hb ho).1] at hg
    exact h.own o g ob ho hg
  frm := h.frm

/-- What a shape tells hangs on what can be looked up in it, and on nothing else. -/
theorem Rel.congr {Γ' : Gam} (h : Rel tab Γ ρ tm w C kn Wr w0) (h1 : ∀ t, Γ'.get t = Γ.get t) (h2 : ∀ o, Γ'.obj o = Γ.obj o) : Rel tab Γ' ρ tm w C kn Wr w0 where
  tms t g sv ht := h.tms t g sv (by rw [← h1]; exact ht)
  obs o g ob ho := by
    rw [h2] at ho
    obtain ⟨a1, a2, a3⟩ := h.obs o g ob ho
    exact ⟨a1, a2, fun hg => (a3 hg).congrObj fun par pd i j et d _ gp pet hp hgp => ⟨gp, by rw [← h2]; exact hp, hgp⟩⟩
  dis o o' g g' ob ob' ho ho' := h.dis o o' g g' ob ob' (by rw [← h2]; exact ho) (by rw [← h2]; exact ho')
  own o g ob ho := h.own o g ob (by rw [← h2]; exact ho)
  frm := h.frm

/-- What a list of changes leaves at a number. -/
def lastOf : List (Nat × Option (Grd × Obj)) → Nat → Option (Option (Grd × Obj))
  | [], _ => none
  | (k, x) :: l, o => match lastOf l o with
    | some y => some y
    | none => if Nat.beq k o then some x else none
theorem obj_appOb : ∀ (l : List (Nat × Option (Grd × Obj))) (Γ : Gam) (o : Nat), (Γ.appOb l).obj o = match lastOf l o with | some x => x | none => Γ.obj o
  | [], Γ, o => rfl
  | (k, some y) :: l, Γ, o => by
    simp only [Gam.appOb, lastOf]
    rw [obj_appOb l]
    cases h : lastOf l o with
    | some z => rfl
    | none =>
      by_cases e : k = o
      · subst e; simp only [Nat.beq_refl, if_true]; exact Gam.obj_setOb_self ..
      · rw [if_neg (by simpa using e)]; exact Gam.obj_setOb_ne _ _ e
  | (k, none) :: l, Γ, o => by
    simp only [Gam.appOb, lastOf]
    rw [obj_appOb l]
    cases h : lastOf l o with
    | some z => rfl
    | none =>
      by_cases e : k = o
      · subst e; simp only [Nat.beq_refl, if_true]; exact Gam.obj_delOb_self ..
      · rw [if_neg (by simpa using e)]; exact Gam.obj_delOb_ne _ e
/-! ## Whole rows are told as whole -/
def canonLeaf (Γ : Gam) (G : Grd) : Leaf → Leaf
  | .sl o et off len => match rowOf Γ G o with
    | some (_, et', d, _) => if et' = et && isWhole d off len then .slw o et else .sl o et off len
    | none => .sl o et off len
  | l => l
def canonS1 (Γ : Gam) (G : Grd) : S1 → S1
  | .one l => .one (canonLeaf Γ G l)
  | .agg ls => .agg (ls.map (canonLeaf Γ G))
def canonSV (Γ : Gam) (G : Grd) : SV → SV
  | .s x => .s (canonS1 Γ G x)
  | .tup xs => .tup (xs.map (canonS1 Γ G))
def canonOb (Γ : Gam) : Option (Grd × Obj) → Option (Grd × Obj)
  | some (g, .box rw cells) => some (g, .box rw (cells.map (canonLeaf Γ g)))
  | x => x
def canonR (Γ : Gam) (G : Grd) (r : Res) : Res :=
  { r with sv := canonSV (Γ.appOb r.ob) G r.sv, ob := r.ob.map fun x => (x.1, canonOb (Γ.appOb r.ob) x.2) }

theorem canonLeaf_sound (h : Rel tab Γ ρ tm w C kn Wr w0) (hG : holdsG ρ G) {l : Leaf} {v : Value} (hl : LeafRel tab C kn.o ρ l v) : LeafRel tab C kn.o ρ (canonLeaf Γ G l) v := by
  unfold canonLeaf
  split
  · rename_i o et off len
    split
    · rename_i dp et' d vw hrow
      split
      · rename_i hc
        simp only [Bool.and_eq_true, decide_eq_true_eq] at hc
        obtain ⟨rfl, hw⟩ := hc
        simp only [isWhole, Bool.and_eq_true, beq_iff_eq] at hw
        obtain ⟨rfl, rfl⟩ := hw
        obtain ⟨rows, F', root, gr, obr, r1, r2, _⟩ := rowOf_sound h hG hrow
        obtain ⟨x1, x2, x3⟩ := r2.header
        obtain ⟨hk, m, n, a, c, l1, l2, l3, l4, l5, l6, l7⟩ := hl
        have hm : m = 0 := by have := T.int.inj l1; omega
        subst hm
        simp only [den, U.den, r1, T.len] at l2
        have hn := T.int.inj l2
        refine ⟨hk, a, by rw [l3]; congr 1 <;> omega, ?_⟩
        rcases l7 with l7 | ⟨b, base, l7, l8⟩
        · exact .inl (by omega)
        · exact .inr ⟨b, base, l7, by rw [l8]; simp⟩
      · exact hl
    · exact hl
  · exact hl
theorem canonS1_sound (h : Rel tab Γ ρ tm w C kn Wr w0) (hG : holdsG ρ G) {x : S1} {v : Value} (hl : S1Rel tab C kn.o ρ x v) : S1Rel tab C kn.o ρ (canonS1 Γ G x) v := by
  cases x with
  | one l => exact ⟨canonLeaf_sound h hG hl.1, hl.2⟩
  | agg ls =>
    obtain ⟨vs, h1, h2, h3⟩ := hl
    refine ⟨vs, h1, by simpa using h2, fun i l hi => ?_⟩
    rw [List.getElem?_map] at hi
    cases hx : ls[i]? with
    | none => rw [hx] at hi; cases hi
    | some l0 =>
      rw [hx] at hi; cases hi
      obtain ⟨u, h4, h5⟩ := h3 i l0 hx
      exact ⟨u, h4, canonLeaf_sound h hG h5⟩
theorem canonSV_sound (h : Rel tab Γ ρ tm w C kn Wr w0) (hG : holdsG ρ G) {x : SV} {v : Value} (hl : SVRel tab C kn.o ρ x v) : SVRel tab C kn.o ρ (canonSV Γ G x) v := by
  cases x with
  | s x => exact canonS1_sound h hG hl
  | tup xs =>
    obtain ⟨vs, h1, h2, h3⟩ := hl
    refine ⟨vs, h1, by simpa using h2, fun i l hi => ?_⟩
    rw [List.getElem?_map] at hi
    cases hx : xs[i]? with
    | none => rw [hx] at hi; cases hi
    | some l0 =>
      rw [hx] at hi; cases hi
      obtain ⟨u, h4, h5⟩ := h3 i l0 hx
      exact ⟨u, h4, canonS1_sound h hG h5⟩

/-- Cells of variables told otherwise. -/
theorem Rel.mapBox {Γ' : Gam} (h : Rel tab Γ ρ tm w C kn Wr w0) (h1 : ∀ t, Γ'.get t = Γ.get t)
    (h2 : ∀ o, Γ'.obj o = Γ.obj o ∨ ∃ g rw cells, Γ.obj o = some (g, .box rw cells) ∧ Γ'.obj o = some (g, .box rw (cells.map (canonLeaf Γ g)))) : Rel tab Γ' ρ tm w C kn Wr w0 := by
  have hb : ∀ o g ob, Γ'.obj o = some (g, ob) → ∃ ob0, Γ.obj o = some (g, ob0) ∧ ob0.owned = ob.owned ∧ ob0.isView = ob.isView ∧ (ob0 = ob ∨ ∃ rw cells, ob0 = .box rw cells ∧ ob = .box rw (cells.map (canonLeaf Γ g))) := by
    intro o g ob ho
    rcases h2 o with h2 | ⟨g', rw', cells, q1, q2⟩
    · exact ⟨ob, by rw [← h2]; exact ho, rfl, rfl, .inl rfl⟩
    · rw [ho] at q2; cases q2
      exact ⟨_, q1, rfl, rfl, .inr ⟨_, _, rfl, rfl⟩⟩
  exact {
    tms := fun t g sv ht => h.tms t g sv (by rw [← h1]; exact ht)
    obs := fun o g ob ho => by
      obtain ⟨ob0, q1, _, _, q4⟩ := hb o g ob ho
      obtain ⟨a1, a2, a3⟩ := h.obs o g ob0 q1
      rcases q4 with rfl | ⟨rw', cells, rfl, rfl⟩
      · refine ⟨a1, a2, fun hg => (a3 hg).congrObj fun par pd i j et d _ gp pet hp hgp => ?_⟩
        obtain ⟨obp, p1, _, _, p4⟩ := hb par gp _ hp
        rcases p4 with rfl | ⟨_, _, _, p5⟩
        · exact ⟨gp, p1, hgp⟩
        · cases p5
      · refine ⟨a1, trivial, fun hg => ?_⟩
        obtain ⟨b, base, r1, r2, r3, r4⟩ := a3 hg
        refine ⟨b, base, r1, by rw [r2, List.length_map], fun j l hj => ?_, fun e x hx => r4 e x (by simpa using hx)⟩
        rw [List.getElem?_map] at hj
        cases hx : cells[j]? with
        | none => rw [hx] at hj; cases hj
        | some l0 =>
          rw [hx] at hj; cases hj
          obtain ⟨v, v1, v2⟩ := r3 j l0 hx
          exact ⟨v, v1, canonLeaf_sound h hg v2⟩
    dis := fun o o' g g' ob ob' ho ho' hg hg' hne hown hv => by
      obtain ⟨ob0, q1, q2, q3, _⟩ := hb o g ob ho
      obtain ⟨ob1, p1, p2, p3, _⟩ := hb o' g' ob' ho'
      exact h.dis o o' g g' ob0 ob1 q1 p1 hg hg' hne (q2.trans hown) (p3.trans hv)
    own := fun o g ob ho hg hown => by
      obtain ⟨ob0, q1, q2, _, _⟩ := hb o g ob ho
      exact h.own o g ob0 q1 hg (q2.trans hown)
    frm := h.frm }

theorem lastOf_map (f : Option (Grd × Obj) → Option (Grd × Obj)) : ∀ (l : List (Nat × Option (Grd × Obj))) (o : Nat), lastOf (l.map fun x => (x.1, f x.2)) o = (lastOf l o).map f
  | [], _ => rfl
  | (k, x) :: l, o => by
    simp only [List.map_cons, lastOf]
    rw [lastOf_map f l o]
    cases lastOf l o with
    | some y => rfl
    | none =>
      simp only [Option.map_none]
      split <;> rfl

theorem Post.canon {nx no : Nat} {r : Res} {v : Value} (hG : holdsG ρ G) (h : Post tab Γ ρ tm C kn Wr w0 nx no r v w) : Post tab Γ ρ tm C kn Wr w0 nx no (canonR Γ G r) v w := by
  obtain ⟨C', kn', h1, h2, h3, h4, h5⟩ := h
  refine ⟨C', kn', h1.mapBox (fun t => by rw [get_appOb, get_appOb]) fun o => ?_, canonSV_sound h1 hG h2, h3, h4, h5⟩
  have hE : (Γ.appOb (canonR Γ G r).ob).obj o = match (lastOf r.ob o).map (canonOb (Γ.appOb r.ob)) with | some x => x | none => Γ.obj o := by
    show (Γ.appOb (r.ob.map fun x => (x.1, canonOb (Γ.appOb r.ob) x.2))).obj o = _
    rw [obj_appOb, lastOf_map]
  rw [hE]
  have hx := obj_appOb r.ob Γ o
  cases hl : lastOf r.ob o with
  | none => rw [hl] at hx; exact .inl hx.symm
  | some y =>
    rw [hl] at hx
    simp only [Option.map_some] at hx ⊢
    cases y with
    | none => exact .inl hx.symm
    | some z =>
      obtain ⟨g, ob⟩ := z
      cases ob with
      | row => exact .inl hx.symm
      | view => exact .inl hx.symm
      | box rw' cells => exact .inr ⟨g, rw', cells, hx, rfl⟩

/-! ## What is done under a guard to what is there in any case -/

/-- A state's objects told otherwise: each by one that was there, or under a guard that does not hold. -/
theorem Rel.remap {Γ' : Gam} (h : Rel tab Γ ρ tm w C kn Wr w0) (hk : kn.le kn') (h1 : ∀ t, Γ'.get t = Γ.get t)
    (h2 : ∀ o g ob, Γ'.obj o = some (g, ob) → kn'.o o ∧ ob.verOk kn' ∧ (holdsG ρ g → ∃ g0 ob0, Γ.obj o = some (g0, ob0) ∧ holdsG ρ g0 ∧ ob0.owned = ob.owned ∧ ob0.isView = ob.isView ∧
      (ob.isView = true → ob = ob0) ∧ (ob.isView = false → ObRel tab C kn.o ρ noGam w o ob0 → ObRel tab C kn.o ρ noGam w o ob)))
    (h3 : ∀ o g pet x, Γ'.obj o = some (g, .row true pet (.var x)) → holdsG ρ g → kn.v x → ∃ g0, Γ.obj o = some (g0, .row true pet (.var x)) ∧ holdsG ρ g0) : Rel tab Γ' ρ tm w C kn' Wr w0 where
  tms t g sv ht := ⟨fun hg => ((h.tms t g sv (by rw [← h1]; exact ht)).1 hg).mono hk.1 fun _ _ => ⟨rfl, rfl, rfl⟩, (h.tms t g sv (by rw [← h1]; exact ht)).2⟩
  obs o g ob ho := by
    obtain ⟨a1, a2, a3⟩ := h2 o g ob ho
    refine ⟨a1, a2, fun hg => ?_⟩
    obtain ⟨g0, ob0, q1, q2, q3, q4, q5, q6⟩ := a3 hg
    obtain ⟨b1, b2, b3⟩ := h.obs o g0 ob0 q1
    cases hv : ob.isView with
    | false =>
      have hr : ObRel tab C kn.o ρ noGam w o ob0 := (b3 q2).congrObj fun par pd i j et d he => by rw [he] at q4; rw [hv] at q4; cases q4
      exact ((q6 hv hr).mono hk.1 b1 (fun _ _ => ⟨rfl, rfl, rfl⟩) rfl fun par pd i j et d he => by rw [he] at hv; cases hv).congrObj fun par pd i j et d he => by rw [he] at hv; cases hv
    | true =>
      have := q5 hv
      subst this
      refine ((b3 q2).mono hk.1 b1 (fun _ _ => ⟨rfl, rfl, rfl⟩) rfl fun par pd i j et d _ gp pet hp => (h.obs par gp _ hp).1).congrObj fun par pd i j et d he gp pet hp hgp => ?_
      rw [he] at b2
      obtain ⟨_, x, hx1, hx2⟩ := b2
      rw [hx1] at hp ⊢
      exact h3 par gp pet x hp hgp hx2
  dis o o' g g' ob ob' ho ho' hg hg' hne hown hv := by
    obtain ⟨g0, ob0, q1, q2, q3, q4, _⟩ := (h2 o g ob ho).2.2 hg
    obtain ⟨g1, ob1, p1, p2, p3, p4, _⟩ := (h2 o' g' ob' ho').2.2 hg'
    exact h.dis o o' g0 g1 ob0 ob1 q1 p1 q2 p2 hne (q3.trans hown) (p4.trans hv)
  own o g ob ho hg hown := by
    obtain ⟨g0, ob0, q1, q2, q3, _⟩ := (h2 o g ob ho).2.2 hg
    exact h.own o g0 ob0 q1 q2 (q3.trans hown)
  frm := h.frm

/-- New where the guards hold, else old; the outermost guard is asked first. -/
def iteG : Grd → Exp → Exp → Exp
  | [], n, _ => n
  | (e, b) :: g, n, o => iteG g (if b then .tri .ite e n o else .tri .ite e o n) o
/-- Each guard is a bool where those outside of it hold. -/
def BoolG (ρ : Env) : Grd → Prop
  | [] => True
  | (e, _) :: g => (holdsG ρ g → ∃ b, den ρ e = .bool b) ∧ BoolG ρ g
theorem iteG_yes : ∀ {G : Grd} {n o : Exp}, holdsG ρ G → den ρ (iteG G n o) = den ρ n
  | [], _, _, _ => rfl
  | (e, b) :: g, n, o, h => by
    simp only [iteG]
    rw [iteG_yes h.2]
    cases b with
    | true => simp only [if_true, den, Tr.den, h.1, T.ite]
    | false => simp only [Bool.false_eq_true, if_false, den, Tr.den, h.1, T.ite]
theorem iteG_no : ∀ {G : Grd} {n o : Exp}, ¬ holdsG ρ G → BoolG ρ G → den ρ (iteG G n o) = den ρ o
  | [], _, _, h, _ => absurd trivial h
  | (e, b) :: g, n, o, h, hb => by
    simp only [iteG]
    by_cases hg : holdsG ρ g
    · rw [iteG_yes hg]
      obtain ⟨x, hx⟩ := hb.1 hg
      have hne : x ≠ b := fun e' => h ⟨by rw [hx, e'], hg⟩
      cases b with
      | true =>
        have : x = false := by cases x <;> simp_all
        subst this
        simp only [if_true, den, Tr.den, hx, T.ite]
      | false =>
        have : x = true := by cases x <;> simp_all
        subst this
        simp only [Bool.false_eq_true, if_false, den, Tr.den, hx, T.ite]
    · exact iteG_no hg hb.2

def boolTm (Γ : Gam) (e : Exp) (g : Grd) : Bool := Γ.tm.any fun p => match p.2 with
  | (g', .s (.one (.bool e'))) => e' == e && g' == g && (match Γ.get p.1 with | some (g2, .s (.one (.bool e2))) => e2 == e && g2 == g | _ => false)
  | _ => false
def boolG (Γ : Gam) : Grd → Bool
  | [] => true
  | (e, _) :: g => boolTm Γ e g && boolG Γ g
theorem boolG_sound (h : Rel tab Γ ρ tm w C kn Wr w0) : ∀ {G : Grd}, boolG Γ G = true → BoolG ρ G
  | [], _ => trivial
  | (e, b) :: g, hb => by
    simp only [boolG, Bool.and_eq_true] at hb
    refine ⟨fun hg => ?_, boolG_sound h hb.2⟩
    have h1 := hb.1
    simp only [boolTm, List.any_eq_true] at h1
    obtain ⟨p, _, hp⟩ := h1
    split at hp
    · simp only [Bool.and_eq_true] at hp
      obtain ⟨_, hp⟩ := hp
      split at hp
      · rename_i g2 e2 hget
        simp only [Bool.and_eq_true, beq_iff_eq] at hp
        obtain ⟨rfl, rfl⟩ := hp
        obtain ⟨⟨x, hx, _⟩, _⟩ := (h.tms _ _ _ hget).1 hg
        exact ⟨x, hx⟩
      · cases hp
    · cases hp

/-- Old and new leaf, told as one. -/
def mergeLeaf (G : Grd) (nx : Nat) (n o : Leaf) : Leaf × List (Grd × SI) :=
  if n = o then (o, []) else match n, o with
  | .int k a, .int k' b => if k = k' then (.int k (.var nx), [([], .set nx (iteG G a b))]) else (.dead, [])
  | .bool a, .bool b => (.bool (.var nx), [([], .set nx (iteG G a b))])
  | .str a, .str b => (.str (.var nx), [([], .set nx (iteG G a b))])
  | _, _ => (.dead, [])
def mergeLeaves (G : Grd) : Nat → List Leaf → List Leaf → Option (List Leaf × List (Grd × SI) × Nat)
  | nx, [], [] => some ([], [], nx)
  | nx, n :: ns, o :: os => match mergeLeaf G nx n o with
    | (l, si) => match mergeLeaves G (nx + si.length) ns os with
      | some (ls, sis, nx') => some (l :: ls, si ++ sis, nx')
      | none => none
  | _, _, _ => none
def mergeOb (G : Grd) (nx : Nat) (n o : Obj) : Option (Obj × List (Grd × SI) × Nat) :=
  if n = o then some (o, [], nx) else match n, o with
  | .row true et a, .row true et' b => if et = et' then some (.row true et (.var nx), [([], .set nx (iteG G a b))], nx + 1) else none
  | .box true ns, .box true os => match mergeLeaves G nx ns os with
    | some (ls, sis, nx') => some (.box true ls, sis, nx')
    | none => none
  | _, _ => none

theorem mergeLeaf_sound {I : Nat → List T → List T → Prop} {nx : Nat} {n o l : Leaf} {si : List (Grd × SI)} (hm : mergeLeaf G nx n o = (l, si)) (hS : HoldsS I ρ si) {k : Nat → Prop} {v : Value} :
    (holdsG ρ G → LeafRel tab C k ρ n v → LeafRel tab C k ρ l v) ∧ (¬ holdsG ρ G → BoolG ρ G → LeafRel tab C k ρ o v → LeafRel tab C k ρ l v) := by
  unfold mergeLeaf at hm
  split at hm
  · rename_i h; subst h; cases hm; exact ⟨fun _ => id, fun _ _ => id⟩
  · split at hm
    · split at hm
      · rename_i hk
        subst hk
        cases hm
        have hx : ρ nx = _ := hS _ (List.mem_singleton.2 rfl) trivial
        refine ⟨fun hg hl => ?_, fun hg hb hl => ?_⟩
        · obtain ⟨m, h1, h2⟩ := hl
          exact ⟨m, by show ρ nx = _; rw [hx, iteG_yes hg]; exact h1, h2⟩
        · obtain ⟨m, h1, h2⟩ := hl
          exact ⟨m, by show ρ nx = _; rw [hx, iteG_no hg hb]; exact h1, h2⟩
      · cases hm; exact ⟨fun _ _ => trivial, fun _ _ _ => trivial⟩
    · cases hm
      have hx : ρ nx = _ := hS _ (List.mem_singleton.2 rfl) trivial
      refine ⟨fun hg hl => ?_, fun hg hb hl => ?_⟩
      · obtain ⟨m, h1, h2⟩ := hl
        exact ⟨m, by show ρ nx = _; rw [hx, iteG_yes hg]; exact h1, h2⟩
      · obtain ⟨m, h1, h2⟩ := hl
        exact ⟨m, by show ρ nx = _; rw [hx, iteG_no hg hb]; exact h1, h2⟩
    · cases hm
      have hx : ρ nx = _ := hS _ (List.mem_singleton.2 rfl) trivial
      refine ⟨fun hg hl => ?_, fun hg hb hl => ?_⟩
      · obtain ⟨m, h1, h2⟩ := hl
        exact ⟨m, by show ρ nx = _; rw [hx, iteG_yes hg]; exact h1, h2⟩
      · obtain ⟨m, h1, h2⟩ := hl
        exact ⟨m, by show ρ nx = _; rw [hx, iteG_no hg hb]; exact h1, h2⟩
    · cases hm; exact ⟨fun _ _ => trivial, fun _ _ _ => trivial⟩
theorem mergeLeaves_sound {I : Nat → List T → List T → Prop} : ∀ {ns os ls : List Leaf} {nx nx' : Nat} {sis : List (Grd × SI)}, mergeLeaves G nx ns os = some (ls, sis, nx') → HoldsS I ρ sis → ls.length = ns.length ∧ ls.length = os.length ∧ nx ≤ nx' ∧
    ∀ (j : Nat) l, ls[j]? = some l → ∃ n o, ns[j]? = some n ∧ os[j]? = some o ∧ ∀ (k : Nat → Prop) v, (holdsG ρ G → LeafRel tab C k ρ n v → LeafRel tab C k ρ l v) ∧ (¬ holdsG ρ G → BoolG ρ G → LeafRel tab C k ρ o v → LeafRel tab C k ρ l v)
  | [], [], ls, nx, nx', sis, h, _ => by cases h; exact ⟨rfl, rfl, Nat.le_refl _, fun j l hj => by simp at hj⟩
  | [], _ :: _, _, _, _, _, h, _ => by simp [mergeLeaves] at h
  | _ :: _, [], _, _, _, _, h, _ => by simp [mergeLeaves] at h
  | n :: ns, o :: os, ls, nx, nx', sis, h, hS => by
    simp only [mergeLeaves] at h
    split at h
    · rename_i ls' sis' nx2 hrest
      obtain ⟨l, si, hml⟩ : ∃ l si, mergeLeaf G nx n o = (l, si) := ⟨_, _, rfl⟩
      rw [hml] at hrest h
      cases h
      have hS1 : HoldsS I ρ si := fun x hx => hS x (List.mem_append_left _ hx)
      have hS2 : HoldsS I ρ sis' := fun x hx => hS x (List.mem_append_right _ hx)
      obtain ⟨h1, h2, h3, h4⟩ := mergeLeaves_sound hrest hS2
      refine ⟨by simp [h1], by simp [h2], by omega, fun j l2 hj => ?_⟩
      cases j with
      | zero => simp at hj; subst hj; exact ⟨n, o, rfl, rfl, fun k v => mergeLeaf_sound hml hS1⟩
      | succ j => simpa using h4 j l2 (by simpa using hj)
    · cases h
theorem mergeOb_sound {I : Nat → List T → List T → Prop} {nx nx' : Nat} {n o ob : Obj} {sis : List (Grd × SI)} (hm : mergeOb G nx n o = some (ob, sis, nx')) (hS : HoldsS I ρ sis) {q : Nat} {k : Nat → Prop} :
    nx ≤ nx' ∧ (n = o ∧ ob = o ∨ (ob.owned = true ∧ o.owned = true ∧ n.owned = true ∧ ob.isView = false ∧ o.isView = false ∧ n.isView = false ∧ (∀ et d, ob = .row true et d → d = .var nx ∧ nx < nx'))) ∧
    (holdsG ρ G → ObRel tab C k ρ noGam w q n → ObRel tab C k ρ noGam w q ob) ∧ (¬ holdsG ρ G → BoolG ρ G → ObRel tab C k ρ noGam w q o → ObRel tab C k ρ noGam w q ob) := by
  unfold mergeOb at hm
  split at hm
  · rename_i h; subst h; cases hm; exact ⟨Nat.le_refl _, .inl ⟨rfl, rfl⟩, fun _ => id, fun _ _ => id⟩
  · split at hm
    · split at hm
      · rename_i he
        subst he
        cases hm
        have hx : ρ nx = _ := hS _ (List.mem_singleton.2 rfl) trivial
        refine ⟨by omega, .inr ⟨rfl, rfl, rfl, rfl, rfl, rfl, fun et d e => by cases e; exact ⟨rfl, by omega⟩⟩, fun hg hl => ?_, fun hg hb hl => ?_⟩
        · obtain ⟨rows, h1, h2⟩ := hl
          exact ⟨rows, by show ρ nx = _; rw [hx, iteG_yes hg]; exact h1, h2⟩
        · obtain ⟨rows, h1, h2⟩ := hl
          exact ⟨rows, by show ρ nx = _; rw [hx, iteG_no hg hb]; exact h1, h2⟩
      · cases hm
    · split at hm
      · rename_i ns os ls sis' nx2 hml
        cases hm
        obtain ⟨h1, h2, h3, h4⟩ := mergeLeaves_sound (tab := tab) (C := C) hml hS
        refine ⟨h3, .inr ⟨rfl, rfl, rfl, rfl, rfl, rfl, fun et d e => by cases e⟩, fun hg hl => ?_, fun hg hb hl => ?_⟩
        · obtain ⟨b, base, r1, r2, r3, r4⟩ := hl
          refine ⟨b, base, r1, by rw [r2, h1], fun j l hj => ?_, fun e x hx => r4 e x (by omega)⟩
          obtain ⟨n', o', y1, y2, y3⟩ := h4 j l hj
          obtain ⟨v, v1, v2⟩ := r3 j n' y1
          exact ⟨v, v1, (y3 _ v).1 hg v2⟩
        · obtain ⟨b, base, r1, r2, r3, r4⟩ := hl
          refine ⟨b, base, r1, by rw [r2, h2], fun j l hj => ?_, fun e x hx => r4 e x (by omega)⟩
          obtain ⟨n', o', y1, y2, y3⟩ := h4 j l hj
          obtain ⟨v, v1, v2⟩ := r3 j o' y2
          exact ⟨v, v1, (y3 _ v).2 hg hb v2⟩
      · cases hm
    · cases hm

/-! ## One operation, under its guard -/

/-- The guard of an operation: under which it is wanted. -/
def guardOf (ops : Array Oper) (Γ : Gam) (o : Oper) : Option Grd :=
  match o.guard with
  | none => some []
  | some (j, want) => match (ops[j]?).bind (·.dst) with
    | some t => match Γ.get t with
      | some (g, .s (.one (.bool e))) => some ((e, want) :: g)
      | _ => none
    | none => none

theorem guardOf_sound (h : Rel tab Γ ρ tm w C kn Wr w0) {ops : Array Oper} {o : Oper} (hg : guardOf ops Γ o = some G) (hsz : ∀ t : Nat, Γ.get t ≠ none → t < tm.size) :
    Region.wanted o (yielded ops tm) = true ↔ holdsG ρ G := by
  unfold guardOf at hg
  unfold Region.wanted
  split at hg
  · rename_i hn
    cases hg
    rw [hn]; simp [holdsG]
  · rename_i j want hn
    rw [hn]
    split at hg
    case h_2 => cases hg
    rename_i t ht
    split at hg
    case h_2 => cases hg
    rename_i g e hge
    cases hg
    have hlt := hsz t (by rw [hge]; simp)
    obtain ⟨h1, h2⟩ := h.tms t g _ hge
    have hget : tm[t]? = some (tm.getD t undef) := by
      rw [Array.getD_eq_getD_getElem?, Array.getElem?_eq_getElem hlt]; rfl
    simp only [yielded, ht, Option.bind_some, hget, holdsG]
    by_cases hg : holdsG ρ g
    · obtain ⟨⟨b, hb, hv⟩, _⟩ := h1 hg
      rw [hv, hb]
      cases b <;> cases want <;> simp [hg]
    · rw [h2 hg]
      simp [hg, undef]

def obOk1 (Γ : Gam) (G : Grd) (nx nx' no no' : Nat) (x : Nat × Option (Grd × Obj)) : Bool :=
  match x with
  | (_, none) => false
  | (o, some (g, ob)) => g == G && Nat.ble no o && Nat.blt o no' && (match ob with
    | .row true _ (.var v) => Nat.ble nx v && Nat.blt v nx'
    | .row true _ _ => false
    | .view par pd _ _ _ _ => match Γ.obj par with
      | some (_, .row true _ pd') => pd' == pd
      | _ => false
    | _ => true)
/-- What an operation adds may be looked at as not there where it is not wanted. -/
def obOk (Γ : Gam) (G : Grd) (nx nx' no no' : Nat) (l : List (Nat × Option (Grd × Obj))) : Bool := G.isEmpty || l.all (obOk1 Γ G nx nx' no no')

theorem obj_appOb_in : ∀ (l : List (Nat × Option (Grd × Obj))) (Γ : Gam) (o : Nat) (x : Grd × Obj), (Γ.appOb l).obj o = some x → (o, some x) ∈ l ∨ Γ.obj o = some x
  | [], Γ, o, x, h => .inr h
  | (k, some y) :: l, Γ, o, x, h => by
    rcases obj_appOb_in l _ o x h with h | h
    · exact .inl (List.mem_cons_of_mem _ h)
    · by_cases e : k = o
      · subst e; rw [Gam.obj_setOb_self] at h; cases h; exact .inl (by simp)
      · rw [Gam.obj_setOb_ne _ _ e] at h; exact .inr h
  | (k, none) :: l, Γ, o, x, h => by
    rcases obj_appOb_in l _ o x h with h | h
    · exact .inl (List.mem_cons_of_mem _ h)
    · by_cases e : k = o
      · subst e; rw [Gam.obj_delOb_self] at h; cases h
      · rw [Gam.obj_delOb_ne _ e] at h; exact .inr h

/-- Not wanted: what was to be added is there under a guard that does not hold. -/
theorem Rel.unwanted (h : Rel tab Γ ρ tm w C kn Wr w0) (hG : ¬ holdsG ρ G) {nx' no' : Nat} {l : List (Nat × Option (Grd × Obj))} (hl : obOk Γ G nx nx' no no' l = true) :
    Rel tab (Γ.appOb l) ρ tm w C ⟨fun o => kn.o o ∨ (no ≤ o ∧ o < no'), fun x => kn.v x ∨ (nx ≤ x ∧ x < nx')⟩ Wr w0 := by
  have hne : G ≠ [] := by rintro rfl; exact hG trivial
  simp only [obOk, Bool.or_eq_true, List.isEmpty_iff, hne, false_or, List.all_eq_true] at hl
  have hnew : ∀ o g ob, (o, some (g, ob)) ∈ l → g = G := by
    intro o g ob hm
    have := hl _ hm
    simp only [obOk1, Bool.and_eq_true, beq_iff_eq] at this
    exact this.1.1.1
  have hk : kn.le ⟨fun o => kn.o o ∨ (no ≤ o ∧ o < no'), fun x => kn.v x ∨ (nx ≤ x ∧ x < nx')⟩ := ⟨fun _ => .inl, fun _ => .inl⟩
  have h' := h.know hk
  have hsplit : ∀ o g ob, (Γ.appOb l).obj o = some (g, ob) → holdsG ρ g → Γ.obj o = some (g, ob) := by
    intro o g ob ho hg
    rcases obj_appOb_in l Γ o _ ho with hm | ho
    · rw [hnew o g ob hm] at hg; exact absurd hg hG
    · exact ho
  exact {
    tms := fun t g sv ht => by
      rw [get_appOb] at ht
      exact h'.tms t g sv ht
    obs := fun o g ob ho => by
      rcases obj_appOb_in l Γ o _ ho with hm | ho'
      · have hgG := hnew o g ob hm
        have hok := hl _ hm
        simp only [obOk1, Bool.and_eq_true, beq_iff_eq] at hok
        obtain ⟨⟨⟨_, a1⟩, a2⟩, a3⟩ := hok
        refine ⟨.inr ⟨Nat.le_of_ble_eq_true a1, Nat.le_of_ble_eq_true a2⟩, ?_, fun hg => absurd (hgG ▸ hg) hG⟩
        split at a3
        · simp only [Bool.and_eq_true] at a3
          exact ⟨_, rfl, .inr ⟨Nat.le_of_ble_eq_true a3.1, Nat.le_of_ble_eq_true a3.2⟩⟩
        · cases a3
        · rename_i par pd i j et d
          split at a3
          · rename_i g2 pet pd' hp
            have hpd : pd' = pd := by simpa using a3
            subst hpd
            obtain ⟨q1, q2, _⟩ := h'.obs par g2 _ hp
            exact ⟨q1, q2⟩
          · cases a3
        · rename_i hx1 hx2 hx3
          cases ob with
          | row dp et d => cases dp with
            | true => exact absurd rfl (hx2 et d)
            | false => trivial
          | view par pd i j et d => exact absurd rfl (hx3 par pd i j et d)
          | box => trivial
      · obtain ⟨q1, q2, q3⟩ := h'.obs o g ob ho'
        exact ⟨q1, q2, fun hg => (q3 hg).congrObj fun par pd i j et d _ gp pet hp hgp => ⟨gp, hsplit par gp _ hp hgp, hgp⟩⟩
    dis := fun o o' g g' ob ob' ho ho' hg hg' => h.dis o o' g g' ob ob' (hsplit o g ob ho hg) (hsplit o' g' ob' ho' hg') hg hg'
    own := fun o g ob ho hg => h.own o g ob (hsplit o g ob ho hg) hg
    frm := h.frm }

/-- What an operation did to what is there in any case, told under its guard. -/
def mergeUpds (Γ Γ1 : Gam) (G : Grd) : Nat → List Nat → Option (List (Nat × Option (Grd × Obj)) × List (Grd × SI) × Nat)
  | nx, [] => some ([], [], nx)
  | nx, o :: os => match Γ1.obj o, Γ.obj o with
    | some ([], n), some ([], old) => if n = old then mergeUpds Γ Γ1 G nx os else match mergeOb G nx n old with
      | some (ob, sis, nx') => match mergeUpds Γ Γ1 G nx' os with
        | some (l, sis', nx'') => some ((o, some ([], ob)) :: l, sis ++ sis', nx'')
        | none => none
      | none => none
    | _, _ => mergeUpds Γ Γ1 G nx os
def okFinal (Γ Γ2 : Gam) (G : Grd) (nx nx' no no' : Nat) (ups : List (Nat × Option (Grd × Obj))) (o : Nat) : Bool :=
  (lastOf ups o).isSome || match Γ2.obj o with
    | none => true
    | some x => obOk1 Γ G nx nx' no no' (o, some x) || Γ.obj o == some x
def mergeR (Γ : Gam) (G : Grd) (nx no : Nat) (r : Res) : Option Res :=
  match mergeUpds Γ (Γ.appOb r.ob) G r.nx ((r.ob.map (·.1)).eraseDups) with
  | some (ups, sis, nx') =>
    if boolG Γ G && (r.ob.map (·.1)).all (okFinal Γ (Γ.appOb (r.ob ++ ups)) G nx nx' no r.no ups) then some { r with ob := r.ob ++ ups, sis := r.sis ++ sis, nx := nx' } else none
  | none => none

theorem mergeUpds_spec {I : Nat → List T → List T → Prop} {Γ1 : Gam} : ∀ {os : List Nat} {nx nx' : Nat} {ups : List (Nat × Option (Grd × Obj))} {sis : List (Grd × SI)}, mergeUpds Γ Γ1 G nx os = some (ups, sis, nx') → HoldsS I ρ sis → nx ≤ nx' ∧
    ∀ o x, lastOf ups o = some x → ∃ ob n old k k' sis', x = some ([], ob) ∧ Γ1.obj o = some ([], n) ∧ Γ.obj o = some ([], old) ∧ n ≠ old ∧ mergeOb G k n old = some (ob, sis', k') ∧ HoldsS I ρ sis' ∧ nx ≤ k ∧ k' ≤ nx'
  | [], nx, nx', ups, sis, h, _ => by cases h; exact ⟨Nat.le_refl _, fun o x hx => by simp [lastOf] at hx⟩
  | o :: os, nx, nx', ups, sis, h, hS => by
    simp only [mergeUpds] at h
    split at h
    · rename_i n old h1 h2
      split at h
      · exact mergeUpds_spec h hS
      · rename_i hne
        split at h
        case h_2 => cases h
        rename_i ob sis1 nx1 hm
        split at h
        case h_2 => cases h
        rename_i l sis2 nx2 hrest
        cases h
        have hS1 : HoldsS I ρ sis1 := fun x hx => hS x (List.mem_append_left _ hx)
        have hS2 : HoldsS I ρ sis2 := fun x hx => hS x (List.mem_append_right _ hx)
        obtain ⟨h3, h4⟩ := mergeUpds_spec hrest hS2
        have h5 := (mergeOb_sound (tab := []) (C := ⟨fun _ => none, fun _ => 0, fun _ => 0, fun _ => Emp⟩) (w := default) (q := 0) (k := fun _ => True) hm hS1).1
        refine ⟨by omega, fun o2 x hx => ?_⟩
        simp only [lastOf] at hx
        split at hx
        · rename_i y hy
          cases hx
          obtain ⟨ob', n', old', k, k', sis', a1, a2, a3, a4, a5, a6, a7, a8⟩ := h4 o2 _ hy
          exact ⟨ob', n', old', k, k', sis', a1, a2, a3, a4, a5, a6, by omega, a8⟩
        · split at hx
          · rename_i e
            have e := Nat.eq_of_beq_eq_true e
            subst e
            cases hx
            exact ⟨ob, n, old, nx, nx1, sis1, rfl, h1, h2, hne, hm, hS1, Nat.le_refl _, h3⟩
          · cases hx
    · exact mergeUpds_spec h hS

theorem mergeR_sound {I : Nat → List T → List T → Prop} {nx no : Nat} {r r' : Res} (h : Rel tab Γ ρ tm w C kn Wr w0) (hm : mergeR Γ G nx no r = some r') (hS : HoldsS I ρ r'.sis) (hle : nx ≤ r.nx) (hfx : ∀ x, nx ≤ x → x < r'.nx → ¬ kn.v x) :
    (∃ ex, r'.sis = r.sis ++ ex) ∧ r.nx ≤ r'.nx ∧ r'.no = r.no ∧ (holdsG ρ G → ∀ v w', Post tab Γ ρ tm C kn Wr w0 nx no r v w' → Post tab Γ ρ tm C kn Wr w0 nx no r' v w') ∧
    (¬ holdsG ρ G → Rel tab (Γ.appOb r'.ob) ρ tm w C ⟨fun o => kn.o o ∨ (no ≤ o ∧ o < r'.no), fun x => kn.v x ∨ (nx ≤ x ∧ x < r'.nx)⟩ Wr w0) := by
  unfold mergeR at hm
  split at hm
  case h_2 => cases hm
  rename_i ups sis nx' hups
  split at hm
  case isFalse => cases hm
  rename_i hc
  cases hm
  simp only [Bool.and_eq_true, List.all_eq_true] at hc
  obtain ⟨hbg, hfin⟩ := hc
  have hB := boolG_sound h hbg
  have hS2 : HoldsS I ρ sis := fun x hx => hS x (List.mem_append_right _ hx)
  obtain ⟨hn, hsp⟩ := mergeUpds_spec hups hS2
  refine ⟨⟨sis, rfl⟩, hn, rfl, fun hG v w' hp => ?_, fun hG => ?_⟩
  · obtain ⟨C', kn', p1, p2, p3, p4, p5⟩ := hp
    let kn2 : Kn := ⟨kn'.o, fun x => kn'.v x ∨ (r.nx ≤ x ∧ x < nx')⟩
    have hk : kn'.le kn2 := ⟨fun _ => id, fun _ => .inl⟩
    have hE : Γ.appOb (r.ob ++ ups) = (Γ.appOb r.ob).appOb ups := Gam.appOb_append ..
    refine ⟨C', kn2, ?_, p2, ⟨⟨fun o ho => p3.le.1 o ho, fun x hx => .inl (p3.le.2 x hx)⟩, p3.same⟩, p4, fun x hx => ?_⟩
    · show Rel tab (Γ.appOb (r.ob ++ ups)) ρ tm w' C' kn2 Wr w0
      rw [hE]
      refine p1.remap hk (fun t => get_appOb _ _ _) (fun o g ob ho => ?_) fun o g pet x ho hg hx => ?_
      · rw [obj_appOb] at ho
        cases hl : lastOf ups o with
        | none =>
          rw [hl] at ho
          obtain ⟨a1, a2, _⟩ := p1.obs o g ob ho
          exact ⟨a1, a2.mono hk.1 hk.2, fun hg => ⟨g, ob, ho, hg, rfl, rfl, fun _ => rfl, fun _ => id⟩⟩
        | some y =>
          rw [hl] at ho
          obtain ⟨ob', n, old, k, k', sis', a1, a2, a3, a4, a5, a6, a7, a8⟩ := hsp o y hl
          subst a1
          cases ho
          obtain ⟨b1, b2, b3, _⟩ := mergeOb_sound (tab := tab) (C := C') (w := w') (q := o) (k := kn'.o) a5 a6
          rcases b2 with ⟨b2, _⟩ | ⟨c1, c2, c3, c4, c5, c6, c7⟩
          · exact absurd b2 a4
          · refine ⟨(p1.obs o [] n a2).1, ?_, fun hg => ⟨[], n, a2, trivial, c3.trans c1.symm, c6.trans c4.symm, fun hv => (by rw [c4] at hv; cases hv), fun _ => b3 hG⟩⟩
            cases ob with
            | row dp et d => cases dp with
              | true => obtain ⟨rfl, q2⟩ := c7 et d rfl; exact ⟨k, rfl, .inr ⟨a7, by omega⟩⟩
              | false => trivial
            | view => cases c4
            | box => trivial
      · rw [obj_appOb] at ho
        cases hl : lastOf ups o with
        | none => rw [hl] at ho; exact ⟨g, ho, hg⟩
        | some y =>
          rw [hl] at ho
          obtain ⟨ob', n, old, k, k', sis', a1, a2, a3, a4, a5, a6, a7, a8⟩ := hsp o y hl
          subst a1
          cases ho
          obtain ⟨b1, b2, _⟩ := mergeOb_sound (tab := tab) (C := C') (w := w') (q := o) (k := kn'.o) a5 a6
          rcases b2 with ⟨b2, _⟩ | ⟨c1, c2, c3, c4, c5, c6, c7⟩
          · exact absurd b2 a4
          · obtain ⟨e1, e2⟩ := c7 pet (.var x) rfl
            cases e1
            rcases p5 _ hx with hv | hv
            · exact absurd hv (hfx _ (by omega) (by show _ < nx'; omega))
            · omega
    · rcases hx with hx | hx
      · exact (p5 x hx).imp id fun h => ⟨h.1, by show x < nx'; omega⟩
      · exact .inr ⟨by omega, hx.2⟩
  · let kn2 : Kn := ⟨fun o => kn.o o ∨ (no ≤ o ∧ o < r.no), fun x => kn.v x ∨ (nx ≤ x ∧ x < nx')⟩
    have hk : kn.le kn2 := ⟨fun _ => .inl, fun _ => .inl⟩
    have hE : Γ.appOb (r.ob ++ ups) = (Γ.appOb r.ob).appOb ups := Gam.appOb_append ..
    have hcases : ∀ o g ob, (Γ.appOb (r.ob ++ ups)).obj o = some (g, ob) → (∃ y, lastOf ups o = some y) ∨ obOk1 Γ G nx nx' no r.no (o, some (g, ob)) = true ∨ Γ.obj o = some (g, ob) := by
      intro o g ob ho
      have ho2 := ho
      rw [hE, obj_appOb] at ho2
      cases hl : lastOf ups o with
      | some y => exact .inl ⟨y, rfl⟩
      | none =>
        rw [hl] at ho2
        rw [obj_appOb] at ho2
        cases hl2 : lastOf r.ob o with
        | none => rw [hl2] at ho2; exact .inr (.inr ho2)
        | some z =>
          obtain ⟨u, u1, u2⟩ := (show ∃ y ∈ r.ob, y.1 = o from by
            have : ∀ {l : List (Nat × Option (Grd × Obj))} {o : Nat} {x : Option (Grd × Obj)}, lastOf l o = some x → ∃ y ∈ l, y.1 = o := by
              intro l
              induction l with
              | nil => intro o x h; simp [lastOf] at h
              | cons p l ih =>
                intro o x h
                obtain ⟨k, y⟩ := p
                simp only [lastOf] at h
                split at h
                · rename_i z hz
                  obtain ⟨y, h1, h2⟩ := ih hz
                  exact ⟨y, List.mem_cons_of_mem _ h1, h2⟩
                · split at h
                  · rename_i e; exact ⟨(k, y), by simp, Nat.eq_of_beq_eq_true e⟩
                  · cases h
            exact this hl2)
          have hf := hfin o (List.mem_map.2 ⟨u, u1, u2⟩)
          simp only [okFinal, hl, Option.isSome_none, Bool.false_or, ho] at hf
          simp only [Bool.or_eq_true, beq_iff_eq] at hf
          exact .inr hf
    show Rel tab (Γ.appOb (r.ob ++ ups)) ρ tm w C kn2 Wr w0
    refine h.remap hk (fun t => get_appOb _ _ _) (fun o g ob ho => ?_) fun o g pet x ho hg hx => ?_
    · rcases hcases o g ob ho with ⟨y, hl⟩ | hok | hsame
      · rw [hE, obj_appOb, hl] at ho
        obtain ⟨ob', n, old, k, k', sis', a1, a2, a3, a4, a5, a6, a7, a8⟩ := hsp o y hl
        subst a1
        cases ho
        obtain ⟨b1, b2, _, b4⟩ := mergeOb_sound (tab := tab) (C := C) (w := w) (q := o) (k := kn.o) a5 a6
        rcases b2 with ⟨b2, _⟩ | ⟨c1, c2, c3, c4, c5, c6, c7⟩
        · exact absurd b2 a4
        · refine ⟨.inl (h.obs o [] old a3).1, ?_, fun hg => ⟨[], old, a3, trivial, c2.trans c1.symm, c5.trans c4.symm, fun hv => (by rw [c4] at hv; cases hv), fun _ => b4 hG hB⟩⟩
          cases ob with
          | row dp et d => cases dp with
            | true => obtain ⟨rfl, q2⟩ := c7 et d rfl; exact ⟨k, rfl, .inr ⟨by omega, by omega⟩⟩
            | false => trivial
          | view => cases c4
          | box => trivial
      · simp only [obOk1, Bool.and_eq_true, beq_iff_eq] at hok
        obtain ⟨⟨⟨a0, a1⟩, a2⟩, a3⟩ := hok
        refine ⟨.inr ⟨Nat.le_of_ble_eq_true a1, Nat.le_of_ble_eq_true a2⟩, ?_, fun hg => absurd (a0 ▸ hg) hG⟩
        split at a3
        · simp only [Bool.and_eq_true] at a3
          exact ⟨_, rfl, .inr ⟨Nat.le_of_ble_eq_true a3.1, Nat.le_of_ble_eq_true a3.2⟩⟩
        · cases a3
        · rename_i par pd i j et d
          split at a3
          · rename_i g2 pet pd' hp
            have hpd : pd' = pd := by simpa using a3
            subst hpd
            obtain ⟨q1, q2, _⟩ := (h.know hk).obs par g2 _ hp
            exact ⟨q1, q2⟩
          · cases a3
        · rename_i hx1 hx2 hx3
          cases ob with
          | row dp et d => cases dp with
            | true => exact absurd rfl (hx2 et d)
            | false => trivial
          | view par pd i j et d => exact absurd rfl (hx3 par pd i j et d)
          | box => trivial
      · obtain ⟨a1, a2, _⟩ := h.obs o g ob hsame
        exact ⟨.inl a1, a2.mono hk.1 hk.2, fun hg => ⟨g, ob, hsame, hg, rfl, rfl, fun _ => rfl, fun _ => id⟩⟩
    · rcases hcases o g _ ho with ⟨y, hl⟩ | hok | hsame
      · rw [hE, obj_appOb, hl] at ho
        obtain ⟨ob', n, old, k, k', sis', a1, a2, a3, a4, a5, a6, a7, a8⟩ := hsp o y hl
        subst a1
        cases ho
        obtain ⟨b1, b2, _⟩ := mergeOb_sound (tab := tab) (C := C) (w := w) (q := o) (k := kn.o) a5 a6
        rcases b2 with ⟨b2, _⟩ | ⟨c1, c2, c3, c4, c5, c6, c7⟩
        · exact absurd b2 a4
        · obtain ⟨e1, e2⟩ := c7 pet (.var x) rfl
          cases e1
          exact absurd hx (hfx _ (by omega) (by show _ < nx'; omega))
      · simp only [obOk1, Bool.and_eq_true, beq_iff_eq] at hok
        exact absurd (hok.1.1.1 ▸ hg) hG
      · exact ⟨g, hsame, hg⟩

/-- A state's shape, after an operation. -/
def Gam.after (Γ : Gam) (G : Grd) (dst : Option Tmp) (r : Res) : Gam := match dst with
  | some t => (Γ.appOb r.ob).put t (G, r.sv)
  | none => Γ.appOb r.ob

def dstOk (nt : Nat) : Option Tmp → Bool
  | some t => Nat.blt t nt
  | none => true
def anStep0 (tab : Tab) (sigs : List Sig) (ops : Array Oper) (nt : Nat) (Γ : Gam) (nx no : Nat) (o : Oper) : Option (Grd × Res) :=
  match guardOf ops Γ o with
  | some G => match anOp tab sigs Γ G nx no o.op with
    | some r0 => let r := canonR Γ G r0
      if Nat.ble nx r.nx && Nat.ble no r.no && dstOk nt o.dst then
        if obOk Γ G nx r.nx no r.no r.ob then some (G, r) else match mergeR Γ G nx no r with
          | some r' => some (G, r')
          | none => none
      else none
    | none => none
  | none => none

/-- Where a state stands between operations: its shape, and what is known. -/
structure St (tab : Tab) (nt : Nat) (E : Nat → Prop) (C0 : Ctx) (Γ : Gam) (ρ : Env) (a : Act) (w : World) (ds : List Deferred) (kn : Kn) (Wr : CS) (w0 : World) : Prop where
  rel : ∃ C, Rel tab Γ ρ a.tmps w C kn Wr w0 ∧ ∀ o, E o → kn.o o → C.A o = C0.A o ∧ C.N o = C0.N o ∧ C.K o = C0.K o
  size : a.tmps.size = nt
  tms : ∀ t : Nat, Γ.get t ≠ none → t < nt
  defers : a.defers = ds

theorem anStep0_sound {E : Nat → Prop} {C0 : Ctx} {nt : Nat} {ops : Array Oper} {o : Oper} {a : Act} {ds : List Deferred} {r : Res} {Q : Exit → Act → World → Prop} {K : Act → World → Prop} (hT : TabOk P tab) (h : St tab nt E C0 Γ ρ a w ds kn Wr w0) (hE : ∀ o, E o → o < no)
    (hr : anStep0 tab sigs ops nt Γ nx no o = some (G, r)) (hS : HoldsS (CallOk P tab sigs) ρ r.sis) (hfo : ∀ o, no ≤ o → o < r.no → ¬ kn.o o) (hfx : ∀ x, nx ≤ x → x < r.nx → ¬ kn.v x)
    (hK : ∀ a' w' kn', St tab nt E C0 (Γ.after G o.dst r) ρ a' w' ds kn' Wr w0 → kn.le kn' → (∀ o, kn'.o o → kn.o o ∨ (no ≤ o ∧ o < r.no)) → (∀ x, kn'.v x → kn.v x ∨ (nx ≤ x ∧ x < r.nx)) → K a' w') :
    if Region.wanted o (yielded ops a.tmps) then o.wp P a w K Q else K (a.put o.dst undef) w := by
  obtain ⟨⟨C, h1, hkeep⟩, h2, h3, h4⟩ := h
  unfold anStep0 at hr
  split at hr
  case h_2 => cases hr
  rename_i G' hg
  split at hr
  case h_2 => cases hr
  rename_i r0 hop
  simp only at hr
  split at hr
  case isFalse => cases hr
  rename_i hc
  simp only [Bool.and_eq_true] at hc
  obtain ⟨⟨c2, c3⟩, c4⟩ := hc
  have c2 := Nat.le_of_ble_eq_true c2
  have key : G = G' ∧ (∃ ex, r.sis = r0.sis ++ ex) ∧ r0.nx ≤ r.nx ∧ r.no = r0.no ∧ (holdsG ρ G' → ∀ v w', Post tab Γ ρ a.tmps C kn Wr w0 nx no (canonR Γ G' r0) v w' → Post tab Γ ρ a.tmps C kn Wr w0 nx no r v w') ∧
      (¬ holdsG ρ G' → Rel tab (Γ.appOb r.ob) ρ a.tmps w C ⟨fun o => kn.o o ∨ (no ≤ o ∧ o < r.no), fun x => kn.v x ∨ (nx ≤ x ∧ x < r.nx)⟩ Wr w0) := by
    split at hr
    · rename_i hob
      cases hr
      exact ⟨rfl, ⟨[], by simp [canonR]⟩, Nat.le_refl _, rfl, fun _ _ _ hp => hp, fun hG => h1.unwanted hG hob⟩
    · split at hr
      · rename_i r' hm
        cases hr
        obtain ⟨k1, k2, k3, k4, k5⟩ := mergeR_sound h1 hm hS c2 hfx
        exact ⟨rfl, k1, k2, k3, k4, k5⟩
      · cases hr
  obtain ⟨hGG, ⟨ex, hsis⟩, hnx, hno, hpost, hunw⟩ := key
  subst hGG
  have hS0 : HoldsS (CallOk P tab sigs) ρ r0.sis := by rw [hsis] at hS; exact fun x hx => hS x (List.mem_append_left _ hx)
  have hfo0 : ∀ o, no ≤ o → o < r0.no → ¬ kn.o o := by rw [hno] at hfo; exact hfo
  have hfx0 : ∀ x, nx ≤ x → x < r0.nx → ¬ kn.v x := fun x h1 h2 => hfx x h1 (by omega)
  clear hr
  have hw := guardOf_sound h1 hg (fun t ht => by rw [h2]; exact h3 t ht)
  obtain ⟨dst, op, ty, pos, aft, gd⟩ := o
  obtain ⟨tm, ds'⟩ := a
  subst h4
  simp only at h1 h2 hw hop c4 ⊢
  have hst : ∀ v w' C' kn', Rel tab (Γ.appOb r.ob) ρ tm w' C' kn' Wr w0 → (∀ o, E o → kn'.o o → C'.A o = C0.A o ∧ C'.N o = C0.N o ∧ C'.K o = C0.K o) → (holdsG ρ G → SVRel tab C' kn'.o ρ r.sv v) → (¬ holdsG ρ G → v = undef) →
      St tab nt E C0 (Γ.after G dst r) ρ (Act.put ⟨tm, ds'⟩ dst v) w' ds' kn' Wr w0 := by
    intro v w' C' kn' hrel hk hv hu
    cases dst with
    | none => exact ⟨⟨C', hrel, hk⟩, h2, fun t ht => h3 t (by rw [← get_appOb r.ob Γ t]; exact ht), rfl⟩
    | some t =>
      have ht : t < nt := Nat.le_of_ble_eq_true c4
      refine ⟨⟨C', hrel.put (by rw [h2]; exact ht) hv hu, hk⟩, by simp [Act.put, h2], fun t' ht' => ?_, rfl⟩
      by_cases e : t = t'
      · subst e; exact ht
      · refine h3 t' ?_
        rw [← get_appOb r.ob Γ t']
        intro hn
        apply ht'
        show ((Γ.appOb r.ob).put t (G, r.sv)).get t' = none
        rw [Gam.get_put_ne _ _ e]; exact hn
  split
  · rename_i hwt
    have hG := hw.1 hwt
    have hd := anOp_sound (ds := ds') (dst := dst) (ty := ty) (pos := pos) (aft := aft) (gd := gd) hT h1 hG hop hS0 hfo0 hfx0
    refine hd K Q fun v w' hp => ?_
    obtain ⟨C', kn', p1, p2, p3, p4, p5⟩ := hpost hG v w' (hp.canon hG)
    refine hK _ _ kn' (hst v w' C' kn' p1 (fun o ho hk => ?_) (fun _ => p2) fun hn => absurd hG hn) p3.le p4 p5
    rcases p4 o hk with h | h
    · obtain ⟨y1, y2, y3⟩ := hkeep o ho h
      obtain ⟨z1, z2, z3⟩ := p3.same o h
      exact ⟨z1.trans y1, z2.trans y2, z3.trans y3⟩
    · have := hE o ho; omega
  · rename_i hwt
    have hG : ¬ holdsG ρ G := fun hh => hwt (hw.2 hh)
    have hrel := hunw hG
    exact hK _ _ _ (hst undef w C _ hrel (fun o ho hk => by
      rcases hk with h | h
      · exact hkeep o ho h
      · have := hE o ho; omega) (fun hh => absurd hh hG) fun _ => rfl) ⟨fun _ => .inl, fun _ => .inl⟩ (fun _ => id) (fun _ => id)
end
end Gp
