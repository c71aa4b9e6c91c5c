/- Gp, part 25: a region: its operations in their order, and in any order that the edges allow. -/
import Derived.Test.YtbifjnccebhmkaaGpReg2b
set_option linter.unusedVariables false
set_option linter.unusedSimpArgs false
namespace Gp
open Go

deriving instance DecidableEq for SI

structure Row where
  G : Grd
  r : Res
  nx : Nat
  no : Nat
  dst : Option Tmp
  deriving Repr, Inhabited
def Gam.afterR (Γ : Gam) (R : Row) : Gam := Γ.after R.G R.dst R.r

def anSeq (tab : Tab) (sigs : List Sig) (ops : Array Oper) (nt : Nat) : List Oper → Gam → Nat → Nat → Option (List Row × Gam × Nat × Nat)
  | [], Γ, nx, no => some ([], Γ, nx, no)
  | o :: l, Γ, nx, no => match anStep tab sigs ops nt Γ nx no o with
    | some (G, r) => match anSeq tab sigs ops nt l (Γ.after G o.dst r) r.nx r.no with
      | some (rs, Γ', nx', no') => some (⟨G, r, nx, no, o.dst⟩ :: rs, Γ', nx', no')
      | none => none
    | none => none
def sisOf : List Row → List (Grd × SI)
  | [] => []
  | R :: l => R.r.sis ++ sisOf l

section
variable {tab : Tab} {Γ : Gam} {ρ ρ' : Env} {tm : Array Value} {w w' : World} {C C1 Cx : Ctx} {kn kn' : Kn} {Wr : CS} {w0 : World} {P : Program} {G : Grd} {nx no nb : Nat} {obs : Obs} {S : Sig} {sigs : List Sig}

/-- What is known is below the next numbers. -/
def Kn.below (kn : Kn) (nx no : Nat) : Prop := (∀ o, kn.o o → o < no) ∧ (∀ x, kn.v x → x < nx)

theorem HoldsS.left {I : Nat → List T → List T → Prop} {a b : List (Grd × SI)} (h : HoldsS I ρ (a ++ b)) : HoldsS I ρ a := fun x hx => h x (List.mem_append_left _ hx)
theorem HoldsS.right {I : Nat → List T → List T → Prop} {a b : List (Grd × SI)} (h : HoldsS I ρ (a ++ b)) : HoldsS I ρ b := fun x hx => h x (List.mem_append_right _ hx)

theorem anSeq_sound {E : Nat → Prop} {C0 : Ctx} {nt : Nat} {ops : Array Oper} {ds : List Deferred} {Q : Exit → Act → World → Prop} (hT : TabOk P tab) :
    ∀ (l : List Oper) (i : Nat) {Γ : Gam} {nx no : Nat} {rs : List Row} {Γ' : Gam} {nx' no' : Nat} {kn : Kn} {a : Act} {w : World}, (∀ j, l[j]? = ops[i + j]?) → anSeq tab sigs ops nt l Γ nx no = some (rs, Γ', nx', no') →
      HoldsS (CallOk P tab sigs) ρ (sisOf rs) → St tab nt E C0 Γ ρ a w ds kn Wr w0 → (∀ o, E o → o < no) → kn.below nx no →
      (∀ a' w' kn', St tab nt E C0 Γ' ρ a' w' ds kn' Wr w0 → kn'.below nx' no' → Q .normal a' w') → wpOps P ops Q (List.range' i l.length) a w
  | [], i, Γ, nx, no, rs, Γ', nx', no', kn, a, w, hl, hr, hS, hst, hE, hkn, hQ => by
    cases hr
    exact hQ a w kn hst hkn
  | o :: l, i, Γ, nx, no, rs, Γ', nx', no', kn, a, w, hl, hr, hS, hst, hE, hkn, hQ => by
    simp only [anSeq] at hr
    split at hr
    case h_2 => cases hr
    rename_i G r hstep
    split at hr
    case h_2 => cases hr
    rename_i rs' Γ2 nx2 no2 hrest
    cases hr
    have hi : ops[i]? = some o := by have := hl 0; simpa using this.symm
    rw [List.length_cons, List.range'_succ]
    simp only [wpOps, hi]
    have hle := anStep_le hstep
    have := anStep_sound (K := wpOps P ops Q (List.range' (i + 1) l.length)) (Q := Q) hT hst hE hstep hS.left (fun o h1 h2 hk => by have := hkn.1 o hk; omega) (fun x h1 h2 hk => by have := hkn.2 x hk; omega)
      (fun a' w' kn' h1 h2 h3 h4 => anSeq_sound hT l (i + 1) (fun j => by have := hl (j + 1); rw [show i + 1 + j = i + (j + 1) by omega, ← this]; simp) hrest hS.right h1 (fun o ho => by have := hE o ho; omega)
        ⟨fun o ho => by rcases h3 o ho with h | h
                        · have := hkn.1 o h; omega
                        · omega, fun x hx => by rcases h4 x hx with h | h
                                                · have := hkn.2 x h; omega
                                                · omega⟩ hQ)
    split
    · rename_i hw; rw [if_pos hw] at this; exact .inl this
    · rename_i hw; rw [if_neg hw] at this; exact this

/-! ## Any order -/
def GEq (Γ Γ' : Gam) : Prop := (∀ t, Γ'.get t = Γ.get t) ∧ (∀ o, Γ'.obj o = Γ.obj o)
theorem GEq.refl (Γ : Gam) : GEq Γ Γ := ⟨fun _ => rfl, fun _ => rfl⟩
theorem GEq.trans {a b c : Gam} (h : GEq a b) (k : GEq b c) : GEq a c := ⟨fun t => (k.1 t).trans (h.1 t), fun o => (k.2 o).trans (h.2 o)⟩
theorem GEq.symm {a b : Gam} (h : GEq a b) : GEq b a := ⟨fun t => (h.1 t).symm, fun o => (h.2 o).symm⟩

theorem lastOf_mem : ∀ {l : List (Nat × Option (Grd × Obj))} {o : Nat} {x : Option (Grd × Obj)}, lastOf l o = some x → ∃ y ∈ l, y.1 = o
  | [], o, x, h => by simp [lastOf] at h
  | (k, y) :: l, o, x, h => by
    simp only [lastOf] at h
    split at h
    · rename_i z hz
      obtain ⟨y, h1, h2⟩ := lastOf_mem hz
      exact ⟨y, List.mem_cons_of_mem _ h1, h2⟩
    · split at h
      · rename_i e; exact ⟨(k, y), by simp, Nat.eq_of_beq_eq_true e⟩
      · cases h

theorem get_afterR (Γ : Gam) (R : Row) (t : Nat) : (Γ.afterR R).get t = if R.dst = some t then some (R.G, R.r.sv) else Γ.get t := by
  unfold Gam.afterR Gam.after
  cases hd : R.dst with
  | none => simp [get_appOb]
  | some d =>
    by_cases e : d = t
    · subst e; simp [Gam.get_put_self]
    · simp only [Gam.get_put_ne _ _ e, get_appOb]
      rw [if_neg (by simpa using e)]
theorem obj_afterR (Γ : Gam) (R : Row) (o : Nat) : (Γ.afterR R).obj o = match lastOf R.r.ob o with | some x => x | none => Γ.obj o := by
  unfold Gam.afterR Gam.after
  cases hd : R.dst with
  | none => exact obj_appOb ..
  | some d => exact obj_appOb ..
theorem GEq.after {a b : Gam} (h : GEq a b) (R : Row) : GEq (a.afterR R) (b.afterR R) :=
  ⟨fun t => by rw [get_afterR, get_afterR, h.1], fun o => by rw [obj_afterR, obj_afterR, h.2]⟩

def keysDisj (R S : Row) : Bool :=
  (match R.dst, S.dst with
   | some a, some b => !Nat.beq a b
   | _, _ => true) && R.r.ob.all fun x => S.r.ob.all fun y => !Nat.beq x.1 y.1
theorem GEq.comm {R S : Row} (h : keysDisj R S = true) (Γ : Gam) : GEq ((Γ.afterR S).afterR R) ((Γ.afterR R).afterR S) := by
  simp only [keysDisj, Bool.and_eq_true, List.all_eq_true] at h
  obtain ⟨h1, h2⟩ := h
  refine ⟨fun t => ?_, fun o => ?_⟩
  · rw [get_afterR, get_afterR, get_afterR, get_afterR]
    by_cases e1 : R.dst = some t
    · by_cases e2 : S.dst = some t
      · rw [e1, e2] at h1; simp at h1
      · simp [e1, e2]
    · simp [e1]
  · rw [obj_afterR, obj_afterR, obj_afterR, obj_afterR]
    cases hR : lastOf R.r.ob o with
    | none => rfl
    | some x =>
      cases hS : lastOf S.r.ob o with
      | none => rfl
      | some y =>
        obtain ⟨u, u1, u2⟩ := lastOf_mem hR
        obtain ⟨v, v1, v2⟩ := lastOf_mem hS
        have := h2 u u1 v v1
        rw [u2, v2] at this; simp at this

def gamOf : List Row → Nat → Nat → Gam → Gam
  | [], _, _, Γ => Γ
  | R :: l, i, m, Γ => gamOf l (i + 1) m (if m.testBit i then Γ.afterR R else Γ)
theorem gamOf_congr : ∀ (l : List Row) (i m : Nat) {a b : Gam}, GEq a b → GEq (gamOf l i m a) (gamOf l i m b)
  | [], _, _, _, _, h => h
  | R :: l, i, m, a, b, h => by
    simp only [gamOf]
    refine gamOf_congr l _ _ ?_
    split
    · exact h.after R
    · exact h
/-- Every row from here on that is in the mask is apart from R. -/
def apartAll (R : Row) : List Row → Nat → Nat → Bool
  | [], _, _ => true
  | S :: l, i, m => (!m.testBit i || keysDisj R S) && apartAll R l (i + 1) m
theorem gamOf_push {R : Row} : ∀ (l : List Row) (i m : Nat) (Γ : Gam), apartAll R l i m = true → GEq ((gamOf l i m Γ).afterR R) (gamOf l i m (Γ.afterR R))
  | [], _, _, Γ, _ => GEq.refl _
  | S :: l, i, m, Γ, h => by
    simp only [apartAll, Bool.and_eq_true, Bool.or_eq_true, Bool.not_eq_true'] at h
    simp only [gamOf]
    refine GEq.trans (gamOf_push l (i + 1) m _ h.2) (gamOf_congr l _ _ ?_)
    split
    · rename_i hb
      have := h.1.resolve_left (by simp [hb])
      exact GEq.comm this Γ
    · exact GEq.refl _
theorem gamOf_mask : ∀ (l : List Row) (i m m' : Nat) (Γ : Gam), (∀ j, i ≤ j → m'.testBit j = m.testBit j) → gamOf l i m' Γ = gamOf l i m Γ
  | [], _, _, _, _, _ => rfl
  | S :: l, i, m, m', Γ, h => by
    simp only [gamOf]
    rw [h i (Nat.le_refl _), gamOf_mask l (i + 1) m m' _ fun j hj => h j (by omega)]

def addBit (m i : Nat) : Nat := m ||| (1 <<< i)
theorem addBit_test (m i j : Nat) : (addBit m i).testBit j = (m.testBit j || decide (i = j)) := by
  unfold addBit
  rw [Nat.testBit_or, Nat.one_shiftLeft, Nat.testBit_two_pow]

/-- Those behind a row in the list. -/
def apartAt (R : Row) (m : Nat) : List Row → Nat → Nat → Bool
  | [], _, _ => true
  | _ :: l, k, i => if Nat.beq k i then apartAll R l (k + 1) m else apartAt R m l (k + 1) i
theorem gamOf_add {R : Row} : ∀ (l : List Row) (k i m : Nat) (Γ : Gam), k ≤ i → l[i - k]? = some R → m.testBit i = false → apartAt R m l k i = true → GEq ((gamOf l k m Γ).afterR R) (gamOf l k (addBit m i) Γ)
  | [], k, i, m, Γ, _, hl, _, _ => by simp at hl
  | S :: l, k, i, m, Γ, hk, hl, hm, ha => by
    simp only [apartAt] at ha
    simp only [gamOf, addBit_test]
    by_cases e : k = i
    · subst e
      simp at hl; subst hl
      rw [if_pos (Nat.beq_refl _)] at ha
      simp only [hm, Bool.false_eq_true, if_false, Bool.false_or, decide_true, if_true]
      rw [gamOf_mask l (k + 1) m (addBit m k) _ fun j hj => by rw [addBit_test]; simp; omega]
      exact gamOf_push l (k + 1) m Γ ha
    · rw [if_neg (by simpa using e)] at ha
      have hd : decide (i = k) = false := by simpa using fun h => e h.symm
      rw [hd, Bool.or_false]
      exact gamOf_add l (k + 1) i m _ (by omega) (by rw [show i - k = i - (k + 1) + 1 by omega] at hl; simpa using hl) hm ha

/-- Which operations an operation waits for. -/
def preOf (o : Oper) : List Nat := (o.after.toList.filter (Region.binds .any)).map (·.on)
def rdy (m : Nat) (pre : List Nat) : Bool := pre.all fun j => m.testBit j

/-- At one set of operations that are done: whatever may come next does what it does in the text's order. -/
def anyRow (tab : Tab) (sigs : List Sig) (ops : Array Oper) (nt : Nat) (rows : List Row) (Γm : Gam) (m : Nat) (masks : List Nat) : List Row → List Oper → Nat → Bool
  | R :: rs, o :: os, i => (m.testBit i || !rdy m (preOf o) || ((match anStep tab sigs ops nt Γm R.nx R.no o with
      | some (G, r) => decide (G = R.G) && decide (r.sv = R.r.sv) && decide (r.ob = R.r.ob) && decide (r.sis = R.r.sis) && Nat.beq r.nx R.r.nx && Nat.beq r.no R.r.no
      | none => false) && masks.contains (addBit m i) && apartAt R m rows 0 i)) && anyRow tab sigs ops nt rows Γm m masks rs os (i + 1)
  | _, _, _ => true
/-- Somebody may go on, or all are done. -/
def someRdy (m : Nat) : List Oper → Nat → Bool
  | [], _ => false
  | o :: os, i => (!m.testBit i && rdy m (preOf o)) || someRdy m os (i + 1)
def anyMask (tab : Tab) (sigs : List Sig) (ops : Array Oper) (nt : Nat) (rows : List Row) (Γ : Gam) (masks : List Nat) (m : Nat) : Bool :=
  anyRow tab sigs ops nt rows (gamOf rows 0 m Γ) m masks rows ops.toList 0 && (Nat.beq m (2 ^ rows.length - 1) || someRdy m ops.toList 0)
def anyChk (tab : Tab) (sigs : List Sig) (ops : Array Oper) (nt : Nat) (rows : List Row) (Γ : Gam) (masks : List Nat) : Bool :=
  masks.contains 0 && masks.all (anyMask tab sigs ops nt rows Γ masks)
end
end Gp
