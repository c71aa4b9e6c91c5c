/- Gp, part 31: all functions of a system together. -/
import Derived.Test.YtbifjnccebhmkaaGpCtl4
set_option linter.unusedVariables false
set_option linter.unusedSimpArgs false
namespace Gp
open Go

def anF (tab : Tab) (sigs : List Sig) (S : Sig) (no0 : Nat) (h : Hint) (fn : Func) : Option PI := match fn.body with
  | some c => if fn.name == "runtime.NumGoroutine" then none else anFn ⟨tab, sigs, fn.ntmps, S, fn.results.toList, no0⟩ c h
  | none => none

/-- A function's pure program tells its calls. -/
def Inst (P : Program) (tab : Tab) (sigs : List Sig) (i : Nat) (p : PI) : Prop :=
  ∀ ds outs ρ1, BigC (CallOk P tab sigs) p (envOf ds) (.ret outs) ρ1 → CallOk P tab sigs i ds outs
theorem inst_of {P : Program} {tab : Tab} {sigs : List Sig} {i : Nat} {p : PI} {S : Sig} {fn : Func} {no0 : Nat} {h : Hint} (hT : TabOk P tab) (hm : P.follows .mixedOrders = true)
    (hf : P.funcs[S.f]? = some fn) (hi : sigs[i]? = some S) (ha : anF tab sigs S no0 h fn = some p) : Inst P tab sigs i p := by
  intro ds outs ρ1 hb
  unfold anF at ha
  split at ha
  case h_2 => cases ha
  rename_i c hc
  split at ha
  case isTrue => cases ha
  rename_i hn
  exact ⟨S, hi, ⟨fn, hf, by simpa using hn, by rw [hc]; rfl⟩, anFn_sound (X := ⟨tab, sigs, fn.ntmps, S, fn.results.toList, no0⟩) hT hm hf hc rfl rfl ha hb⟩

def AllInst (P : Program) (tab : Tab) (sigs : List Sig) : List PI → Nat → Prop
  | [], _ => True
  | p :: l, i => Inst P tab sigs i p ∧ AllInst P tab sigs l (i + 1)
theorem AllInst.get {P : Program} {tab : Tab} {sigs : List Sig} : ∀ {l : List PI} {k : Nat}, AllInst P tab sigs l k → ∀ i p, l[i]? = some p → Inst P tab sigs (k + i) p
  | [], _, _, i, p, h => by simp at h
  | q :: l, k, ⟨h1, h2⟩, i, p, h => by
    cases i with
    | zero => simp at h; subst h; exact h1
    | succ i =>
      have := h2.get i p (by simpa using h)
      rw [show k + (i + 1) = k + 1 + i by omega]; exact this

/-- The pure programs by number. -/
def sysOf (ps : List PI) : Nat → Option Body := fun i => (ps[i]?).map .code
theorem sys_call {P : Program} {tab : Tab} {sigs : List Sig} {ps : List PI} (hall : AllInst P tab sigs ps 0) {i : Nat} {ds outs : List T} (h : CallI (sysOf ps) i ds outs) : CallOk P tab sigs i ds outs := by
  have hc : ∀ i p ds outs ρ₁, sysOf ps i = some (.code p) → BigC (CallOk P tab sigs) p (envOf ds) (.ret outs) ρ₁ → CallOk P tab sigs i ds outs := by
    intro i p ds outs ρ1 hp hb
    unfold sysOf at hp
    cases hx : ps[i]? with
    | none => rw [hx] at hp; cases hp
    | some q =>
      rw [hx] at hp; cases hp
      have := hall.get i p hx
      rw [Nat.zero_add] at this
      exact this ds outs ρ1 hb
  have hp : ∀ i R ds outs, sysOf ps i = some (.prim R) → R ds outs → CallOk P tab sigs i ds outs := by
    intro i R ds outs hp
    unfold sysOf at hp
    cases hx : ps[i]? with
    | none => rw [hx] at hp; cases hp
    | some q => rw [hx] at hp; cases hp
  rcases h with ⟨p, ρ1, h1, h2⟩ | ⟨R, h1, h2⟩
  · exact hc i p ds outs ρ1 h1 (bigC_of_big hc hp h2)
  · exact hp i R ds outs h1 h2
end Gp
