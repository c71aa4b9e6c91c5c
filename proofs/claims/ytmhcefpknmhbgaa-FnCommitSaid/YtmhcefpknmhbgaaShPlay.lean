/- Sh: plays: steps from a state on, done or not; draws by a small program of tactics. -/
import Derived.Test.YtmhcefpknmhbgaaShP1
import Derived.Test.YtmhcefpknmhbgaaShP11
set_option linter.unusedVariables false
set_option linter.unusedSimpArgs false
namespace Sh
open Go

/-! ### Plays -/
def nextS {S A : Type} (stp : S → A → Option S) (x : S) (a : A) : S := (stp x a).getD x
def runS {S A : Type} (stp : S → A → Option S) (x : S) (l : List A) : S := l.foldl (nextS stp) x
def didS {S A : Type} (stp : S → A → Option S) (x : S) : List A → List Bool
  | [] => []
  | a :: l => (stp x a).isSome :: didS stp (nextS stp x a) l
theorem runS_snoc {S A : Type} (stp : S → A → Option S) (x : S) (l : List A) (a : A) : runS stp x (l ++ [a]) = nextS stp (runS stp x l) a := by simp [runS]
theorem didS_snoc {S A : Type} (stp : S → A → Option S) : ∀ (x : S) (l : List A) (a : A), didS stp x (l ++ [a]) = didS stp x l ++ [(stp (runS stp x l) a).isSome]
  | x, [], a => rfl
  | x, b :: l, a => by
    simp only [List.cons_append, didS]
    rw [didS_snoc stp _ l a]; rfl
theorem didS_length {S A : Type} (stp : S → A → Option S) : ∀ (x : S) (l : List A), (didS stp x l).length = l.length
  | _, [] => rfl
  | x, a :: l => by simp only [didS, List.length_cons, didS_length stp _ l]
theorem nextS_inv {S A : Type} {stp : S → A → Option S} {P : S → Prop} (hP : ∀ x a y, P x → stp x a = some y → P y) {x : S} (h : P x) (a : A) : P (nextS stp x a) := by
  unfold nextS
  cases hs : stp x a with
  | none => exact h
  | some y => exact hP x a y h hs
theorem runS_inv {S A : Type} {stp : S → A → Option S} {P : S → Prop} (hP : ∀ x a y, P x → stp x a = some y → P y) : ∀ {x : S} (h : P x) (l : List A), P (runS stp x l)
  | _, h, [] => h
  | _, h, a :: l => runS_inv hP (nextS_inv hP h a) l
theorem runS_append {S A : Type} (stp : S → A → Option S) (x : S) (l m : List A) : runS stp x (l ++ m) = runS stp (runS stp x l) m := by simp [runS]

/-! ### Ok through binds and tests -/
theorem Ok.bb {A B D : Type} {m : Option A} {f : A → Option B} {g : B → Option D} {Q : D → Prop} (h : Ok (m.bind fun a => (f a).bind g) Q) : Ok ((m.bind f).bind g) Q := by
  cases m <;> exact h
theorem Ok.bs {A B : Type} {a : A} {f : A → Option B} {Q : B → Prop} (h : Ok (f a) Q) : Ok ((some a).bind f) Q := h
theorem Ok.bi {A B : Type} {c : Prop} [Decidable c] {a b : Option A} {f : A → Option B} {Q : B → Prop} (h : c → Ok (a.bind f) Q) (k : ¬ c → Ok (b.bind f) Q) : Ok ((if c then a else b).bind f) Q := by
  split
  · exact h ‹_›
  · exact k ‹_›
theorem Ok.bc {A B : Type} {c : Bool} {m : Option A} {f : A → Option B} {Q : B → Prop} (h : c = true) (k : Ok (m.bind f) Q) : Ok ((Sh.chk c m).bind f) Q := by rw [chk_pos h]; exact k
theorem Ok.bid {A B : Type} {c : Prop} [Decidable c] {a b : Option A} {f : A → Option B} {Q : B → Prop} (h : c → Ok (a.bind f) Q) (k : ¬ c → Ok (b.bind f) Q) : Ok ((if decide c = true then a else b).bind f) Q :=
  Ok.bi (fun hc => h (of_decide_eq_true hc)) fun hc => k (of_decide_eq_false (by simpa using hc))
theorem Ok.ited {A : Type} {c : Prop} [Decidable c] {a b : Option A} {Q : A → Prop} (h : c → Ok a Q) (k : ¬ c → Ok b Q) : Ok (if decide c = true then a else b) Q :=
  Ok.ite (fun hc => h (of_decide_eq_true hc)) fun hc => k (of_decide_eq_false (by simpa using hc))
theorem Ok.be {A B : Type} {m : Option A} {a : A} {f : A → Option B} {Q : B → Prop} (h : m = some a) (k : Ok (f a) Q) : Ok (m.bind f) Q := by rw [h]; exact k
theorem Ok.and {A : Type} {m : Option A} {P Q : A → Prop} (h : Ok m P) (k : Ok m Q) : Ok m (fun a => P a ∧ Q a) := by
  obtain ⟨a, h1, h2⟩ := h
  obtain ⟨b, h3, h4⟩ := k
  rw [h1] at h3; cases h3
  exact ⟨a, h1, h2, h4⟩
theorem Ok.any {A : Type} {m : Option A} {Q : A → Prop} (h : Ok m Q) : Ok m fun _ => True := h.mono fun _ _ => trivial
theorem among_ok' {a : List Int} {p h : Int} (hb : Byt a) (h0 : 0 ≤ p) (h1 : p ≤ 100000000000000000) {l : List Int} (hl : l ≠ []) : Ok (spec_l1Cur_among a p h l) (fun r => p ≤ r.1 ∧ r.1 ≤ p + 2 ∧ r.2.2 ∈ l) :=
  among_ok hb h0 h1 hl (· ∈ l) fun _ hx => hx
end Sh
