/- Gp, part 5: the table of types, held against the program's own. -/
import Derived.Test.YtbifjnccebhmkaaGpStep
import Derived.Laws.Sem
set_option linter.unusedVariables false
set_option linter.unusedSimpArgs false
namespace Gp
open Go

def tdChk : TD → TypeDesc → Bool
  | .int k, .int k' => decide (k = k')
  | .bool, .bool => true
  | .str, .string => true
  | .slice e, .slice e' => Nat.beq e e'
  | .array n e, .array n' e' => Nat.beq n n' && Nat.beq e e'
  | .struct fs, .struct gs => fs == gs.toList.map fun f => (f.offset, f.type)
  | .ptr e, .pointer e' => Nat.beq e e'
  | .mp k v, .map k' v' => Nat.beq k k' && Nat.beq v v'
  | .other, _ => true
  | _, _ => false

def zeroIs : CK → Value → Bool
  | .int k, .int k' n => decide (k = k') && n == 0
  | .bool, .bool b => !b
  | .str, .string s => s.data.size == 0
  | .sl _, .slice none 0 0 => true
  | .ptr, .pointer none => true
  | .fnc, .nilFunc => true
  | .mp, .map none => true
  | .other, _ => true
  | _, _ => false

def zerosAre : List CK → List Value → Bool
  | [], [] => true
  | c :: cs, v :: vs => zeroIs c v && zerosAre cs vs
  | _, _ => false

def isAggD : TypeDesc → Bool
  | .struct _ | .array _ _ => true
  | _ => false
def isAggV : Value → Bool
  | .agg _ => true
  | _ => false

/-- The cells' kinds that a type's make asks for. -/
def cksOf (tab : Tab) (ti : TI) : Bool :=
  match ti.td with
  | .int k => ti.cks == [.int k]
  | .bool => ti.cks == [.bool]
  | .str => ti.cks == [.str]
  | .slice e => ti.cks == [.sl e]
  | .struct fs => fs.all fun (off, t) => match tab.get t with
    | some tj => (ti.cks.drop off).take tj.size == tj.cks && Nat.ble (off + tj.size) ti.size && !Nat.beq tj.size 0
    | none => false
  | .array n e => match tab.get e with
    | some tj => ti.cks == (List.replicate n tj.cks).flatten && !Nat.beq tj.size 0
    | none => false
  | _ => true

def tiChk (P : Program) (tab : Tab) (t : Nat) (ti : TI) : Bool :=
  (match P.underlying t with
   | some d => tdChk ti.td d && isAggD d == ti.agg
   | none => false) &&
  (match P.info? t with
   | some i => Nat.beq i.size ti.size && Nat.beq i.bytes ti.bytes &&
      (match i.zero with
       | some z => zerosAre ti.cks z.cells.toList && (isAggV z == ti.agg)
       | none => false)
   | none => false) &&
  Nat.beq ti.size ti.cks.length && cksOf tab ti

def tabChkFrom (P : Program) (tab : Tab) : Nat → List (Option TI) → Bool
  | _, [] => true
  | t, none :: r => tabChkFrom P tab (t + 1) r
  | t, some ti :: r => tiChk P tab t ti && tabChkFrom P tab (t + 1) r
def tabChk (P : Program) (tab : Tab) : Bool := tabChkFrom P tab 0 tab

theorem tabChkFrom_spec {P : Program} {tab : Tab} : ∀ (l : List (Option TI)) (t : Nat), tabChkFrom P tab t l = true → ∀ i ti, l[i]? = some (some ti) → tiChk P tab (t + i) ti = true
  | [], _, _, i, ti, h => by simp at h
  | none :: r, t, h, 0, ti, hi => by simp at hi
  | none :: r, t, h, i + 1, ti, hi => by
    have := tabChkFrom_spec r (t + 1) h i ti (by simpa using hi)
    rw [show t + (i + 1) = t + 1 + i by omega]; exact this
  | some x :: r, t, h, 0, ti, hi => by
    simp at hi; subst hi
    simp only [tabChkFrom, Bool.and_eq_true] at h
    exact h.1
  | some x :: r, t, h, i + 1, ti, hi => by
    simp only [tabChkFrom, Bool.and_eq_true] at h
    have := tabChkFrom_spec r (t + 1) h.2 i ti (by simpa using hi)
    rw [show t + (i + 1) = t + 1 + i by omega]; exact this

/-- What the table says of a type holds of the program's. -/
structure TIOk (P : Program) (tab : Tab) (t : TypeId) (ti : TI) : Prop where
  und : ∃ d, P.underlying t = some d ∧ tdChk ti.td d = true ∧ isAggD d = ti.agg
  inf : ∃ i z, P.info? t = some i ∧ i.size = ti.size ∧ i.bytes = ti.bytes ∧ i.zero = some z ∧ zerosAre ti.cks z.cells.toList = true ∧ isAggV z = ti.agg
  len : ti.size = ti.cks.length
  cks : cksOf tab ti = true

abbrev TabOk (P : Program) (tab : Tab) : Prop := ∀ t ti, tab.get t = some ti → TIOk P tab t ti

theorem tabOk_of {P : Program} {tab : Tab} (h : tabChk P tab = true) : TabOk P tab := by
  intro t ti hti
  have hi : tab[t]? = some (some ti) := by
    unfold Tab.get at hti
    cases hx : tab[t]? with
    | none => rw [hx] at hti; cases hti
    | some y => rw [hx] at hti; simp at hti; rw [hti]
  have := tabChkFrom_spec tab 0 h t ti hi
  simp only [tiChk, Bool.and_eq_true, Nat.zero_add] at this
  obtain ⟨⟨⟨h1, h2⟩, h3⟩, h4⟩ := this
  refine ⟨?_, ?_, by simpa using h3, h4⟩
  · split at h1
    · rename_i d hd
      simp only [Bool.and_eq_true, beq_iff_eq] at h1
      exact ⟨d, hd, h1.1, h1.2⟩
    · cases h1
  · split at h2
    · rename_i i hi2
      simp only [Bool.and_eq_true] at h2
      obtain ⟨⟨h5, h6⟩, h7⟩ := h2
      split at h7
      · rename_i z hz
        simp only [Bool.and_eq_true, beq_iff_eq] at h7
        exact ⟨i, z, hi2, by simpa using h5, by simpa using h6, hz, h7.1, h7.2⟩
      · cases h7
    · cases h2

theorem zerosAre_get : ∀ {cs : List CK} {vs : List Value}, zerosAre cs vs = true → vs.length = cs.length ∧ ∀ (j : Nat) c, cs[j]? = some c → ∃ v, vs[j]? = some v ∧ zeroIs c v = true
  | [], [], _ => ⟨rfl, fun j c h => by simp at h⟩
  | [], _ :: _, h => by cases h
  | _ :: _, [], h => by cases h
  | c :: cs, v :: vs, h => by
    simp only [zerosAre, Bool.and_eq_true] at h
    obtain ⟨h1, h2⟩ := zerosAre_get h.2
    refine ⟨by simp [h1], fun j c' hj => ?_⟩
    cases j with
    | zero => simp at hj; subst hj; exact ⟨v, rfl, h.1⟩
    | succ j => simpa using h2 j c' (by simpa using hj)

end Gp
