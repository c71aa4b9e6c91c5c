/- Sh: typed functions of Go functions and what is shown of them: the part that this statement needs. -/
import Derived.Test.YtddabbooahooeaaGreatDoorShBase
import Derived.IntWalk
set_option linter.unusedVariables false
set_option linter.unusedSimpArgs false
namespace Sh
open Go
theorem zac {x : Int} (h1 : -9223372036854775808 <= x) (h2 : x <= 9223372036854775807) : i64 x = x := IntWalk.i64_in x ⟨h1, h2⟩
theorem zhN {x : Int} (h1 : 0 <= x) (h2 : x <= 18446744073709551615) : u64 x = x := IntWalk.u64_in x ⟨h1, h2⟩
def Ok {A : Type} (m : Option A) (Q : A -> Prop) : Prop := ∃ a, m = some a /\ Q a
theorem Ok.ret {A : Type} {a : A} {Q : A -> Prop} (h : Q a) : Ok (some a) Q := ⟨a, rfl, h⟩
theorem Ok.bind {A B : Type} {m : Option A} {f : A -> Option B} {P : A -> Prop} {Q : B -> Prop} (h : Ok m P) (k : ∀ a, P a -> Ok (f a) Q) : Ok (m.bind f) Q := by
 obtain ⟨a, rfl, ha⟩ := h
 exact k a ha
theorem Ok.mono {A : Type} {m : Option A} {P Q : A -> Prop} (h : Ok m P) (k : ∀ a, P a -> Q a) : Ok m Q := by
 obtain ⟨a, h1, h2⟩ := h
 exact ⟨a, h1, k a h2⟩
theorem Ok.chk {A : Type} {c : Bool} {m : Option A} {Q : A -> Prop} (h : c = true) (k : Ok m Q) : Ok (chk c m) Q := by rw [zbE h]; exact k
theorem Ok.ite {A : Type} {c : Prop} [Decidable c] {a b : Option A} {Q : A -> Prop} (h : c -> Ok a Q) (k : ¬ c -> Ok b Q) : Ok (if c then a else b) Q := by
 split
 · exact h ‹_›
 · exact k ‹_›
theorem Ok.eq {A : Type} {m : Option A} {a : A} {Q : A -> Prop} (h : m = some a) (hq : Q a) : Ok m Q := ⟨a, h, hq⟩
theorem Ok.of_eq {A : Type} {m : Option A} {a : A} (h : Ok m (· = a)) : m = some a := by obtain ⟨b, h1, rfl⟩ := h; exact h1
theorem zjC (c x : Bool) : (if c then true else x) = (c || x) := by cases c <;> rfl
theorem ziG (c x : Bool) : (if c then x else false) = (c && x) := by cases c <;> rfl
theorem ziZ {R : Type} (a b : Bool) (k : Option R) : chk (a && b) k = chk a (chk b k) := by cases a <;> rfl
theorem zgD {R : Type} {p : Prop} [Decidable p] (h : p) (k : Option R) : chk (decide p) k = k := zbE (decide_eq_true h) k
theorem zbz {p : Prop} [Decidable p] (h : p) : decide p = true := decide_eq_true h
theorem zjN {p : Prop} [Decidable p] (h : ¬ p) : decide p = false := decide_eq_false h
theorem bind_some {A B : Type} (a : A) (f : A -> Option B) : (Option.some a).bind f = f a := rfl
theorem Cc : ((∀ h : Decidable True, @decide True h = true) /\ (∀ h : Decidable False, @decide False h = false)) /\ (∀ {x : Int}, -9223372036854775808 <= x -> x <= 9223372036854775807 -> i64 x = x) /\ (∀ {R : Type} (a b : Bool) (k : Option R), chk (a && b) k = chk a (chk b k)) /\
 (∀ {R : Type} {p : Prop} [Decidable p], p -> ∀ (k : Option R), chk (decide p) k = k) /\ (∀ {R : Type} (k : Option R), chk true k = k) /\ (∀ {p : Prop} [Decidable p], p -> decide p = true) /\ (∀ {p : Prop} [Decidable p], ¬ p -> decide p = false) /\
 ((false = true) = False) /\ ((!true) = false) /\ ((!false) = true) /\ (∀ b : Bool, (b && b) = b) /\ (∀ b : Bool, (b && false) = false) /\ (∀ b : Bool, (false && b) = false) /\ (∀ b : Bool, (b && true) = b) /\ (∀ b : Bool, (true && b) = b) /\
 (∀ b : Bool, (b || false) = b) /\ (∀ b : Bool, (false || b) = b) /\ (∀ b : Bool, (b || true) = true) /\ (∀ b : Bool, (true || b) = true) /\ (∀ {A B : Type} (a : A) (f : A -> Option B), (Option.some a).bind f = f a) /\ (∀ n : Nat, ((n : Int)).toNat = n) :=
 ⟨⟨decide_true, decide_false⟩, fun h k => zac h k, ziZ, fun h k => zgD h k, zah, fun h => zbz h, fun h => zjN h, Bool.false_eq_true, rfl, rfl, Bool.and_self, Bool.and_false, Bool.false_and, Bool.and_true, Bool.true_and, Bool.or_false, Bool.false_or, Bool.or_true, Bool.true_or, bind_some, Int.toNat_natCast⟩
theorem zad {A B : Type} {m : Option A} {a : A} {g : A -> Option B} {b : Option B} (h : m = some a) (k : g a = b) : m.bind g = b := by rw [h]; exact k
theorem zam {σ X : Type} {f : σ -> Option (σ ⊕ X)} {Q : X -> Prop} (Inv : σ -> Prop) (μ : σ -> Nat)
 (step : ∀ s, Inv s -> Ok (f s) (fun o => match o with | .inl s' => Inv s' /\ μ s' < μ s | .inr x => Q x)) {s : σ} (hs : Inv s) : Ok (loopM f s) Q := by
 have key : ∀ n s, μ s = n -> Inv s -> Ok (loopM f s) Q := by
  intro n
  induction n using Nat.strongRecOn with
  | _ n ih =>
    intro s hn hs
    obtain ⟨o, h1, h2⟩ := step s hs
    rw [zay, h1]
    cases o with
    | inl s' => exact ih (μ s') (by have := h2.2; omega) s' rfl h2.1
    | inr x => exact ⟨x, rfl, h2⟩
 exact key _ s rfl hs
theorem zhj {σ X : Type} {f : σ -> Option (σ ⊕ X)} (st : Nat -> σ) (n : Nat) (x : X) (hs : ∀ k, k < n -> f (st k) = some (.inl (st (k + 1)))) (he : f (st n) = some (.inr x)) : loopM f (st 0) = some x := by
 have key : ∀ m k, k + m = n -> loopM f (st k) = some x := by
  intro m
  induction m with
  | zero => intro k hk; rw [zay, show k = n by omega, he]
  | succ m ih => intro k hk; rw [zay, hs k (by omega)]; exact ih (k + 1) (by omega)
 exact key n 0 (by omega)
theorem zeJ {σ X : Type} {f : σ -> Option (σ ⊕ X)} (st : Nat -> σ) (n : Nat) (out : Nat -> Option X) (xe : X)
 (hs : ∀ k, k < n -> f (st k) = some (match out k with | none => .inl (st (k + 1)) | some x => .inr x)) (he : f (st n) = some (.inr xe)) :
 loopM f (st 0) = some (((List.range n).findSome? out).getD xe) := by
 have key : ∀ m k, k + m = n -> loopM f (st k) = some (((List.range' k m).findSome? out).getD xe) := by
  intro m
  induction m with
  | zero => intro k hk; rw [zay, show k = n by omega, he]; rfl
  | succ m ih =>
    intro k hk
    rw [zay, hs k (by omega), List.range'_succ, List.findSome?_cons]
    cases h : out k with
    | none => exact ih (k + 1) (by omega)
    | some x => rfl
 have := key n 0 (by omega)
 rwa [List.range_eq_range']
theorem zdq {X : Type} (p : Nat -> Bool) (x xe : X) : ∀ l : List Nat, ((l.findSome? fun k => if p k then some x else none).getD xe) = if l.any p then x else xe
 | [] => rfl
 | a :: l => by
   rw [List.findSome?_cons, List.any_cons]
   cases h : p a with
   | true => simp
   | false => simpa using zdq p x xe l
theorem zdF {σ X : Type} {f : σ -> Option (σ ⊕ X)} (st : Nat -> σ) (n : Nat) (p : Nat -> Bool) (x xe : X)
 (hs : ∀ k, k < n -> f (st k) = some (if p k then .inr x else .inl (st (k + 1)))) (he : f (st n) = some (.inr xe)) :
 loopM f (st 0) = some (if (List.range n).any p then x else xe) := by
 rw [zeJ st n (fun k => if p k then some x else none) xe (fun k hk => by rw [hs k hk]; cases p k <;> rfl) he, zdq]
theorem zas {σ X : Type} {f : σ -> Option (σ ⊕ X)} {s0 : σ} (st : Nat -> σ) (n : Nat) (x : X) (h0 : s0 = st 0) (hs : ∀ k, k < n -> f (st k) = some (.inl (st (k + 1)))) (he : f (st n) = some (.inr x)) : loopM f s0 = some x := by
 rw [h0]; exact zhj st n x hs he
theorem zbT {σ X : Type} {f : σ -> Option (σ ⊕ X)} {s0 : σ} (st : Nat -> σ) (n : Nat) (p : Nat -> Bool) (x xe : X) (h0 : s0 = st 0)
 (hs : ∀ k, k < n -> f (st k) = some (if p k then .inr x else .inl (st (k + 1)))) (he : f (st n) = some (.inr xe)) :
 loopM f s0 = some (if (List.range n).any p then x else xe) := by
 rw [h0]; exact zdF st n p x xe hs he
theorem zao {n : Nat} {p : Nat -> Bool} : (List.range n).any p = false ↔ ∀ k, k < n -> p k = false := by simp
theorem zcV {X : Type} (p : Nat -> Bool) (g : Nat -> X) (xe : X) : ∀ l : List Nat, ((l.findSome? fun k => if p k then some (g k) else none).getD xe) = match l.find? p with | some k => g k | none => xe
 | [] => rfl
 | a :: l => by
   rw [List.findSome?_cons, List.find?_cons]
   cases h : p a with
   | true => simp
   | false => simpa using zcV p g xe l
theorem zh6 {σ X : Type} {f : σ -> Option (σ ⊕ X)} {s0 : σ} (st : Nat -> σ) (n : Nat) (p : Nat -> Bool) (g : Nat -> X) (xe : X) (h0 : s0 = st 0)
 (hs : ∀ k, k < n -> f (st k) = some (if p k then .inr (g k) else .inl (st (k + 1)))) (he : f (st n) = some (.inr xe)) :
 loopM f s0 = some (match (List.range n).find? p with | some k => g k | none => xe) := by
 rw [h0, zeJ st n (fun k => if p k then some (g k) else none) xe (fun k hk => by rw [hs k hk]; cases p k <;> rfl) he, zcV]
def firstIdx (n : Nat) (p : Nat -> Bool) : Int := match (List.range n).find? p with
 | some k => (k : Int)
 | none => -1
def firstR (n : Nat) (p : Nat -> Bool) : Unit ⊕ Int := match (List.range n).find? p with
 | some k => .inr (k : Int)
 | none => .inl ()
theorem zcl {σ : Type} {f : σ -> Option (σ ⊕ (Unit ⊕ Int))} {s0 : σ} (st : Nat -> σ) (n : Nat) (p : Nat -> Bool) (h0 : s0 = st 0)
 (hs : ∀ k, k < n -> f (st k) = some (if p k then .inr (.inr (k : Int)) else .inl (st (k + 1)))) (he : f (st n) = some (.inr (.inl ()))) :
 loopM f s0 = some (firstR n p) := by
 rw [zh6 st n p (fun k => .inr (k : Int)) (.inl ()) h0 hs he]
 unfold firstR
 cases (List.range n).find? p <;> rfl
theorem zcj (n : Nat) (p : Nat -> Bool) : sumE (firstR n p) (fun _ => some (-1 : Int)) (fun z => some z) = some (firstIdx n p) := by
 unfold firstR firstIdx
 cases (List.range n).find? p <;> rfl
theorem zdp (n : Nat) (p : Nat -> Bool) : decide ((0 : Int) <= firstIdx n p) = (List.range n).any p := by
 unfold firstIdx
 cases h : (List.range n).find? p with
 | none =>
   have : (List.range n).any p = false := by
    rw [List.find?_eq_none] at h
    rw [zao]
    intro k hk
    have := h k (List.mem_range.2 hk)
    simpa using this
   rw [this]; rfl
 | some k =>
   have h1 := List.find?_some h
   have h2 := List.mem_of_find?_eq_some h
   have : (List.range n).any p = true := List.any_eq_true.2 ⟨k, h2, h1⟩
   rw [this]
   exact decide_eq_true (Int.natCast_nonneg k)
theorem za9 {n : Nat} {p : Nat -> Bool} : (List.range n).any p = true ↔ ∃ k, k < n /\ p k = true := by simp
theorem zer {n : Nat} {p : Nat -> Bool} : (List.range n).any p = false ↔ ∀ k, k < n -> p k = false := by simp
theorem zcd {A : Type} (l : List A) (d : A) {k : Nat} (h : k < l.length) : l.take (k + 1) = l.take k ++ [l.getD k d] := by
 rw [List.take_succ_eq_append_getElem h, List.getD_eq_getElem?_getD, List.getElem?_eq_getElem h]; rfl
theorem zaC {A : Type} {l : List A} {k : Nat} (h : k < l.length) (d : A) : l.getD k d ∈ l := by
 rw [List.getD_eq_getElem?_getD, List.getElem?_eq_getElem h]; exact List.getElem_mem h
theorem zj8 {A : Type} [DecidableEq A] (d : A) {a b : List A} (h : a.length = b.length) : ((List.range a.length).any fun k => !decide (a.getD k d = b.getD k d)) = !decide (a = b) := by
 rw [Bool.eq_iff_iff, za9]
 simp only [Bool.not_eq_true', decide_eq_false_iff_not]
 constructor
 · rintro ⟨k, hk, hne⟩ e; exact hne (by rw [e])
 · intro hne
   refine Classical.byContradiction fun hn => hne (List.ext_getElem? fun i => ?_)
   by_cases hi : i < a.length
   · have : a.getD i d = b.getD i d := Classical.byContradiction fun hc => hn ⟨i, hi, hc⟩
     rw [List.getD_eq_getElem?_getD, List.getD_eq_getElem?_getD] at this
     rw [List.getElem?_eq_getElem hi, List.getElem?_eq_getElem (by omega)] at this ⊢
     simpa using this
   · rw [List.getElem?_eq_none (by omega), List.getElem?_eq_none (by omega)]
theorem zgu {A : Type} (l : List A) (d : A) (p : A -> Bool) : ((List.range l.length).any fun k => p (l.getD k d)) = l.any p := by
 rw [Bool.eq_iff_iff, List.any_eq_true, List.any_eq_true]
 constructor
 · rintro ⟨k, hk, h⟩
   exact ⟨_, zaC (List.mem_range.1 hk) d, h⟩
 · rintro ⟨x, hx, h⟩
   obtain ⟨k, hk, e⟩ := List.getElem_of_mem hx
   refine ⟨k, List.mem_range.2 hk, ?_⟩
   rw [List.getD_eq_getElem?_getD, List.getElem?_eq_getElem hk]
   simpa [e] using h
noncomputable def spec_l1Cur_next (a0 : List (Int)) (a1 : Int) (a2 : Int) : Option (Int × Int × Int) :=
 (if (decide (a1 < ((a0.length : Nat) : Int))) then
 (chk ((decide ((0 : Int) <= a1)) && (decide (a1 < ((a0.length : Nat) : Int)))) <|
 some (i64 (a0.getD (Int.toNat a1) 0)) : Option (Int))
 else
 (some (0 : Int))).bind fun s0 =>
 if (decide ((i64 (a1 + (1 : Int))) <= ((a0.length : Nat) : Int))) then
 (some ((i64 (a1 + (1 : Int))), (u64 ((u64 ((u64 (a2 * (6364136223846793005 : Int))) + (u64 s0))) + (1442695040888963407 : Int))), s0))
 else
 some ((i64 (a1 + (1 : Int))), (u64 ((u64 ((u64 (a2 * (6364136223846793005 : Int))) + (u64 s0))) + (1442695040888963407 : Int))), (i64 (ands .u64 (shrs .u64 (u64 ((u64 ((u64 (a2 * (6364136223846793005 : Int))) + (u64 s0))) + (1442695040888963407 : Int))) (40 : Int)) (255 : Int))))
noncomputable def spec_l1Cur_pick (a0 : List (Int)) (a1 : Int) (a2 : Int) (a3 : Int) : Option (Int × Int × Int) :=
 if (decide (a3 <= (1 : Int))) then
 (some (a1, a2, (0 : Int)))
 else
 (spec_l1Cur_next a0 a1 a2).bind fun r0 =>
 (if (decide ((200 : Int) < a3)) then
 ((spec_l1Cur_next a0 r0.1 r0.2.1).bind fun r1 =>
 some (r1.1, r1.2.1, (i64 ((i64 (r0.2.2 * (256 : Int))) + r1.2.2))) : Option (Int × Int × Int))
 else
 (some (r0.1, r0.2.1, r0.2.2))).bind fun s2 =>
 chk (!decide (a3 = (0 : Int))) <|
 some (s2.1, s2.2.1, (Int.tmod s2.2.2 a3))
noncomputable def spec_l1Cur_one (a0 : List (Int)) (a1 : Int) (a2 : Int) (a3 : Int) : Option (Int × Int × Bool) :=
 (spec_l1Cur_pick a0 a1 a2 a3).bind fun r0 =>
 some (r0.1, r0.2.1, (decide (r0.2.2 = (0 : Int))))
noncomputable def impl_in (a0 : Int) (a1 : Int) (a2 : Int) : Option (Bool) :=
 let v0 : Bool := (if (decide (a1 <= a0)) then (decide (a0 <= a2)) else false)
 some v0
noncomputable def spec_l1In (a0 : Int) (a1 : Int) (a2 : Int) : Option (Bool) :=
 let v0 : Bool := (if (decide (a1 <= a0)) then (decide (a0 <= a2)) else false)
 some v0
noncomputable def laws_has (a0 : List (Int)) (a1 : Int) : Option (Bool) :=
 let j0 : Unit -> Option _ := fun s1 =>
 (some false)
 (loopM (σ := Int) (X := (Unit) ⊕ (Bool)) (fun s2 =>
 (if (decide (s2 < ((a0.length : Nat) : Int))) then
 (let j3 : Unit -> Option _ := fun s4 =>
 (some (.inl (i64 (s2 + (1 : Int)))))
 chk ((decide ((0 : Int) <= s2)) && (decide (s2 < ((a0.length : Nat) : Int)))) <|
 if (decide ((a0.getD (Int.toNat s2) 0) = a1)) then
 (some (.inr (.inr true)))
 else
 j3 ())
 else
 some (.inr (.inl ())))) (0 : Int)).bind fun x5 =>
 sumE x5 (fun y6 =>
 j0 ()) (fun z7 =>
 some z7)
theorem zgn {l : List Int} (h : l.length <= 1000000000) (x : Int) : laws_has l x = some (decide (x ∈ l)) := by
 unfold laws_has
 refine zad (zdF (fun k : Nat => (k : Int)) l.length (fun k => decide (l.getD k 0 = x)) (.inr true) (.inl ()) ?_ ?_) ?_
 · intro k hk
   have hk1 : (k : Int) < l.length := by omega
   simp (disch := omega) only [Cc, if_true, if_false]
   by_cases e : l.getD k 0 = x
   · simp only [e, decide_true, if_true]
   · simp only [e, decide_false, Bool.false_eq_true, if_false]; rfl
 · simp
 · have : ((List.range l.length).any fun k => decide (l.getD k 0 = x)) = decide (x ∈ l) := by
    rw [Bool.eq_iff_iff, za9]
    simp only [decide_eq_true_eq]
    constructor
    · rintro ⟨k, hk, rfl⟩; exact zaC hk 0
    · intro hx
      obtain ⟨k, hk, e⟩ := List.getElem_of_mem hx
      exact ⟨k, hk, by rw [List.getD_eq_getElem?_getD, List.getElem?_eq_getElem hk]; exact e⟩
   rw [this]
   by_cases e : x ∈ l <;> simp [e]
theorem zhv (n a b : Int) : impl_in n a b = some (decide (a <= n) && decide (n <= b)) := by
 unfold impl_in
 simp only [ziG]
theorem zds (n a b : Int) : spec_l1In n a b = some (decide (a <= n) && decide (n <= b)) := by
 unfold spec_l1In
 simp only [ziG]
abbrev Tx := List UInt8
def SK {A : Type} (key : A -> Tx) (l : List A) : Prop := l.Pairwise fun x y => Op.bytesLess (key x) (key y) = true
theorem SK.get {A : Type} {key : A -> Tx} {l : List A} (h : SK key l) (d : A) {i j : Nat} (hij : i < j) (hj : j < l.length) : Op.bytesLess (key (l.getD i d)) (key (l.getD j d)) = true := by
 have := List.pairwise_iff_getElem.1 h i j (by omega) hj hij
 rw [List.getD_eq_getElem?_getD, List.getD_eq_getElem?_getD, List.getElem?_eq_getElem hj, List.getElem?_eq_getElem (show i < l.length by omega)]
 exact this
noncomputable def spec_l1Has (a0 : List (Int)) (a1 : Int) : Option (Bool) :=
 let j0 : Unit -> Option _ := fun s1 =>
 (some false)
 (loopM (σ := Int) (X := (Unit) ⊕ (Bool)) (fun s2 =>
 (if (decide (s2 < ((a0.length : Nat) : Int))) then
 (let j3 : Unit -> Option _ := fun s4 =>
 (some (.inl (i64 (s2 + (1 : Int)))))
 chk ((decide ((0 : Int) <= s2)) && (decide (s2 < ((a0.length : Nat) : Int)))) <|
 if (decide ((a0.getD (Int.toNat s2) 0) = a1)) then
 (some (.inr (.inr true)))
 else
 j3 ())
 else
 some (.inr (.inl ())))) (0 : Int)).bind fun x5 =>
 sumE x5 (fun y6 =>
 j0 ()) (fun z7 =>
 some z7)
noncomputable def slices_Index__int_int (a0 : List (Int)) (a1 : Int) : Option (Int) :=
 let j0 : Unit -> Option _ := fun s1 =>
 (some (-1 : Int))
 (loopM (σ := Int) (X := (Unit) ⊕ (Int)) (fun s2 =>
 (if (decide (s2 < ((a0.length : Nat) : Int))) then
 (let j3 : Unit -> Option _ := fun s4 =>
 (some (.inl (i64 (s2 + (1 : Int)))))
 chk ((decide ((0 : Int) <= s2)) && (decide (s2 < ((a0.length : Nat) : Int)))) <|
 if (decide (a1 = (a0.getD (Int.toNat s2) 0))) then
 (some (.inr (.inr s2)))
 else
 j3 ())
 else
 some (.inr (.inl ())))) (0 : Int)).bind fun x5 =>
 sumE x5 (fun y6 =>
 j0 ()) (fun z7 =>
 some z7)
noncomputable def slices_Contains__int_int (a0 : List (Int)) (a1 : Int) : Option (Bool) :=
 (slices_Index__int_int a0 a1).bind fun r0 =>
 some (decide ((0 : Int) <= r0))
noncomputable def slices_Equal__int_int (a0 : List (Int)) (a1 : List (Int)) : Option (Bool) :=
 if (!decide (((a0.length : Nat) : Int) = ((a1.length : Nat) : Int))) then
 (some false)
 else
 let j0 : Unit -> Option _ := fun s1 =>
 (some true)
 (loopM (σ := Int) (X := (Unit) ⊕ (Bool)) (fun s2 =>
 (if (decide (s2 < ((a0.length : Nat) : Int))) then
 (let j3 : Unit -> Option _ := fun s4 =>
 (some (.inl (i64 (s2 + (1 : Int)))))
 chk ((decide ((0 : Int) <= s2)) && (decide (s2 < ((a0.length : Nat) : Int)))) <|
 chk ((decide ((0 : Int) <= s2)) && (decide (s2 < ((a1.length : Nat) : Int)))) <|
 if (!decide ((a0.getD (Int.toNat s2) 0) = (a1.getD (Int.toNat s2) 0))) then
 (some (.inr (.inr false)))
 else
 j3 ())
 else
 some (.inr (.inl ())))) (0 : Int)).bind fun x5 =>
 sumE x5 (fun y6 =>
 j0 ()) (fun z7 =>
 some z7)
noncomputable def math_bits_Len32 (a0 : Int) : Option (Int) :=
 (if (decide ((65536 : Int) <= a0)) then
 (some ((shrs .u32 a0 (16 : Int)), (16 : Int)) : Option (Int × Int))
 else
 (some (a0, (0 : Int)))).bind fun s0 =>
 (if (decide ((256 : Int) <= s0.1)) then
 (some ((shrs .u32 s0.1 (8 : Int)), (i64 (s0.2 + (8 : Int)))) : Option (Int × Int))
 else
 (some (s0.1, s0.2))).bind fun s1 =>
 chk ((decide ((0 : Int) <= (u8 s1.1))) && (decide ((u8 s1.1) < ((([0, 1, 2, 2, 3, 3, 3, 3, 4, 4, 4, 4, 4, 4, 4, 4, 5, 5, 5, 5, 5, 5, 5, 5, 5, 5, 5, 5, 5, 5, 5, 5, 6, 6, 6, 6, 6, 6, 6, 6, 6, 6, 6, 6, 6, 6, 6, 6, 6, 6, 6, 6, 6, 6, 6, 6, 6, 6, 6, 6, 6, 6, 6, 6, 7, 7, 7, 7, 7, 7, 7, 7, 7, 7, 7, 7, 7, 7, 7, 7, 7, 7, 7, 7, 7, 7, 7, 7, 7, 7, 7, 7, 7, 7, 7, 7, 7, 7, 7, 7, 7, 7, 7, 7, 7, 7, 7, 7, 7, 7, 7, 7, 7, 7, 7, 7, 7, 7, 7, 7, 7, 7, 7, 7, 7, 7, 7, 7, 8, 8, 8, 8, 8, 8, 8, 8, 8, 8, 8, 8, 8, 8, 8, 8, 8, 8, 8, 8, 8, 8, 8, 8, 8, 8, 8, 8, 8, 8, 8, 8, 8, 8, 8, 8, 8, 8, 8, 8, 8, 8, 8, 8, 8, 8, 8, 8, 8, 8, 8, 8, 8, 8, 8, 8, 8, 8, 8, 8, 8, 8, 8, 8, 8, 8, 8, 8, 8, 8, 8, 8, 8, 8, 8, 8, 8, 8, 8, 8, 8, 8, 8, 8, 8, 8, 8, 8, 8, 8, 8, 8, 8, 8, 8, 8, 8, 8, 8, 8, 8, 8, 8, 8, 8, 8, 8, 8, 8, 8, 8, 8, 8, 8, 8, 8, 8, 8, 8, 8, 8, 8, 8, 8, 8, 8, 8, 8] : List UInt8).length : Nat) : Int)))) <|
 some (i64 (s1.2 + (i64 (((([0, 1, 2, 2, 3, 3, 3, 3, 4, 4, 4, 4, 4, 4, 4, 4, 5, 5, 5, 5, 5, 5, 5, 5, 5, 5, 5, 5, 5, 5, 5, 5, 6, 6, 6, 6, 6, 6, 6, 6, 6, 6, 6, 6, 6, 6, 6, 6, 6, 6, 6, 6, 6, 6, 6, 6, 6, 6, 6, 6, 6, 6, 6, 6, 7, 7, 7, 7, 7, 7, 7, 7, 7, 7, 7, 7, 7, 7, 7, 7, 7, 7, 7, 7, 7, 7, 7, 7, 7, 7, 7, 7, 7, 7, 7, 7, 7, 7, 7, 7, 7, 7, 7, 7, 7, 7, 7, 7, 7, 7, 7, 7, 7, 7, 7, 7, 7, 7, 7, 7, 7, 7, 7, 7, 7, 7, 7, 7, 8, 8, 8, 8, 8, 8, 8, 8, 8, 8, 8, 8, 8, 8, 8, 8, 8, 8, 8, 8, 8, 8, 8, 8, 8, 8, 8, 8, 8, 8, 8, 8, 8, 8, 8, 8, 8, 8, 8, 8, 8, 8, 8, 8, 8, 8, 8, 8, 8, 8, 8, 8, 8, 8, 8, 8, 8, 8, 8, 8, 8, 8, 8, 8, 8, 8, 8, 8, 8, 8, 8, 8, 8, 8, 8, 8, 8, 8, 8, 8, 8, 8, 8, 8, 8, 8, 8, 8, 8, 8, 8, 8, 8, 8, 8, 8, 8, 8, 8, 8, 8, 8, 8, 8, 8, 8, 8, 8, 8, 8, 8, 8, 8, 8, 8, 8, 8, 8, 8, 8, 8, 8, 8, 8, 8, 8, 8, 8] : List UInt8).getD (Int.toNat (u8 s1.1)) 0).toNat : Nat) : Int))))
noncomputable def math_bits_Len64 (a0 : Int) : Option (Int) :=
 (if (decide ((4294967296 : Int) <= a0)) then
 (some ((shrs .u64 a0 (32 : Int)), (32 : Int)) : Option (Int × Int))
 else
 (some (a0, (0 : Int)))).bind fun s0 =>
 (if (decide ((65536 : Int) <= s0.1)) then
 (some ((shrs .u64 s0.1 (16 : Int)), (i64 (s0.2 + (16 : Int)))) : Option (Int × Int))
 else
 (some (s0.1, s0.2))).bind fun s1 =>
 (if (decide ((256 : Int) <= s1.1)) then
 (some ((shrs .u64 s1.1 (8 : Int)), (i64 (s1.2 + (8 : Int)))) : Option (Int × Int))
 else
 (some (s1.1, s1.2))).bind fun s2 =>
 chk ((decide ((0 : Int) <= (u8 s2.1))) && (decide ((u8 s2.1) < ((([0, 1, 2, 2, 3, 3, 3, 3, 4, 4, 4, 4, 4, 4, 4, 4, 5, 5, 5, 5, 5, 5, 5, 5, 5, 5, 5, 5, 5, 5, 5, 5, 6, 6, 6, 6, 6, 6, 6, 6, 6, 6, 6, 6, 6, 6, 6, 6, 6, 6, 6, 6, 6, 6, 6, 6, 6, 6, 6, 6, 6, 6, 6, 6, 7, 7, 7, 7, 7, 7, 7, 7, 7, 7, 7, 7, 7, 7, 7, 7, 7, 7, 7, 7, 7, 7, 7, 7, 7, 7, 7, 7, 7, 7, 7, 7, 7, 7, 7, 7, 7, 7, 7, 7, 7, 7, 7, 7, 7, 7, 7, 7, 7, 7, 7, 7, 7, 7, 7, 7, 7, 7, 7, 7, 7, 7, 7, 7, 8, 8, 8, 8, 8, 8, 8, 8, 8, 8, 8, 8, 8, 8, 8, 8, 8, 8, 8, 8, 8, 8, 8, 8, 8, 8, 8, 8, 8, 8, 8, 8, 8, 8, 8, 8, 8, 8, 8, 8, 8, 8, 8, 8, 8, 8, 8, 8, 8, 8, 8, 8, 8, 8, 8, 8, 8, 8, 8, 8, 8, 8, 8, 8, 8, 8, 8, 8, 8, 8, 8, 8, 8, 8, 8, 8, 8, 8, 8, 8, 8, 8, 8, 8, 8, 8, 8, 8, 8, 8, 8, 8, 8, 8, 8, 8, 8, 8, 8, 8, 8, 8, 8, 8, 8, 8, 8, 8, 8, 8, 8, 8, 8, 8, 8, 8, 8, 8, 8, 8, 8, 8, 8, 8, 8, 8, 8, 8] : List UInt8).length : Nat) : Int)))) <|
 some (i64 (s2.2 + (i64 (((([0, 1, 2, 2, 3, 3, 3, 3, 4, 4, 4, 4, 4, 4, 4, 4, 5, 5, 5, 5, 5, 5, 5, 5, 5, 5, 5, 5, 5, 5, 5, 5, 6, 6, 6, 6, 6, 6, 6, 6, 6, 6, 6, 6, 6, 6, 6, 6, 6, 6, 6, 6, 6, 6, 6, 6, 6, 6, 6, 6, 6, 6, 6, 6, 7, 7, 7, 7, 7, 7, 7, 7, 7, 7, 7, 7, 7, 7, 7, 7, 7, 7, 7, 7, 7, 7, 7, 7, 7, 7, 7, 7, 7, 7, 7, 7, 7, 7, 7, 7, 7, 7, 7, 7, 7, 7, 7, 7, 7, 7, 7, 7, 7, 7, 7, 7, 7, 7, 7, 7, 7, 7, 7, 7, 7, 7, 7, 7, 8, 8, 8, 8, 8, 8, 8, 8, 8, 8, 8, 8, 8, 8, 8, 8, 8, 8, 8, 8, 8, 8, 8, 8, 8, 8, 8, 8, 8, 8, 8, 8, 8, 8, 8, 8, 8, 8, 8, 8, 8, 8, 8, 8, 8, 8, 8, 8, 8, 8, 8, 8, 8, 8, 8, 8, 8, 8, 8, 8, 8, 8, 8, 8, 8, 8, 8, 8, 8, 8, 8, 8, 8, 8, 8, 8, 8, 8, 8, 8, 8, 8, 8, 8, 8, 8, 8, 8, 8, 8, 8, 8, 8, 8, 8, 8, 8, 8, 8, 8, 8, 8, 8, 8, 8, 8, 8, 8, 8, 8, 8, 8, 8, 8, 8, 8, 8, 8, 8, 8, 8, 8, 8, 8, 8, 8, 8, 8] : List UInt8).getD (Int.toNat (u8 s2.1)) 0).toNat : Nat) : Int))))
noncomputable def math_bits_Len (a0 : Int) : Option (Int) :=
 if false then
 ((math_bits_Len32 (u32 a0)).bind fun r0 =>
 some r0)
 else
 (math_bits_Len64 a0).bind fun r1 =>
 some r1
noncomputable def cmp_isNaN_int (a0 : Int) : Option (Bool) :=
 some (!decide (a0 = a0))
noncomputable def cmp_Less_int (a0 : Int) (a1 : Int) : Option (Bool) :=
 (cmp_isNaN_int a0).bind fun r0 =>
 (if r0 then cmp_isNaN_int a1 else some false).bind fun r1 =>
 let v2 : Bool := (if r0 then (!r1) else false)
 let v3 : Bool := (if v2 then true else (decide (a0 < a1)))
 some v3
noncomputable def slices_insertionSortOrdered_int (a0 : List (Int)) (a1 : Int) (a2 : Int) : Option (List (Int)) :=
 ((loopM (σ := (List (Int)) × Int) (X := List (Int)) (fun s0 =>
 (if (decide (s0.2 < a2)) then
 ((((loopM (σ := (List (Int)) × Int) (X := List (Int)) (fun s1 =>
 (chk (!(decide (a1 < s1.2)) || ((decide ((0 : Int) <= s1.2)) && (decide (s1.2 < ((s1.1.length : Nat) : Int))))) <|
 chk (!(decide (a1 < s1.2)) || ((decide ((0 : Int) <= (i64 (s1.2 - (1 : Int))))) && (decide ((i64 (s1.2 - (1 : Int))) < ((s1.1.length : Nat) : Int))))) <|
 (if (decide (a1 < s1.2)) then cmp_Less_int (s1.1.getD (Int.toNat s1.2) 0) (s1.1.getD (Int.toNat (i64 (s1.2 - (1 : Int)))) 0) else some false).bind fun r2 =>
 let v3 : Bool := (if (decide (a1 < s1.2)) then r2 else false)
 if v3 then
 ((chk ((decide ((0 : Int) <= (i64 (s1.2 - (1 : Int))))) && (decide ((i64 (s1.2 - (1 : Int))) < ((s1.1.length : Nat) : Int)))) <|
 chk ((decide ((0 : Int) <= s1.2)) && (decide (s1.2 < ((s1.1.length : Nat) : Int)))) <|
 chk ((decide ((0 : Int) <= s1.2)) && (decide (s1.2 < ((s1.1.length : Nat) : Int)))) <|
 let v4 : List (Int) := (s1.1.set (Int.toNat s1.2) (s1.1.getD (Int.toNat (i64 (s1.2 - (1 : Int)))) 0))
 chk ((decide ((0 : Int) <= (i64 (s1.2 - (1 : Int))))) && (decide ((i64 (s1.2 - (1 : Int))) < ((v4.length : Nat) : Int)))) <|
 let v5 : List (Int) := (v4.set (Int.toNat (i64 (s1.2 - (1 : Int)))) (s1.1.getD (Int.toNat s1.2) 0))
 some v5 : Option (List (Int))).bind fun s6 =>
 some (.inl (s6, (i64 (s1.2 - (1 : Int))))))
 else
 some (.inr s1.1))) (s0.1, s0.2)).bind fun x7 =>
 some x7 : Option (List (Int))).bind fun s8 =>
 some s8 : Option (List (Int))).bind fun s9 =>
 some (.inl (s9, (i64 (s0.2 + (1 : Int))))))
 else
 some (.inr s0.1))) (a0, (i64 (a1 + (1 : Int))))).bind fun x10 =>
 some x10 : Option (List (Int))).bind fun s11 =>
 some s11
noncomputable def slices_pdqsortOrdered_int (a0 : List (Int)) (a1 : Int) (a2 : Int) (a3 : Int) : Option (List (Int)) :=
 (loopM (σ := Unit) (X := List (Int)) (fun s0 =>
 (if (decide ((i64 (a2 - a1)) <= (12 : Int))) then
 ((slices_insertionSortOrdered_int a0 a1 a2).bind fun r1 =>
 some (.inr r1))
 else
 chk false <|
 none)) ()).bind fun x2 =>
 some x2
noncomputable def slices_Sort__int_int (a0 : List (Int)) : Option (List (Int)) :=
 (math_bits_Len (u64 ((a0.length : Nat) : Int))).bind fun r0 =>
 (slices_pdqsortOrdered_int a0 (0 : Int) ((a0.length : Nat) : Int) r0).bind fun r1 =>
 some r1
noncomputable def spec_l1Cur_of (a0 : List (Int)) (a1 : Int) (a2 : Int) (a3 : List (List UInt8)) : Option (Int × Int × List UInt8) :=
 (spec_l1Cur_pick a0 a1 a2 ((a3.length : Nat) : Int)).bind fun r0 =>
 chk ((decide ((0 : Int) <= r0.2.2)) && (decide (r0.2.2 < ((a3.length : Nat) : Int)))) <|
 some (r0.1, r0.2.1, (a3.getD (Int.toNat r0.2.2) []))
noncomputable def spec_l1Key (a0 : List UInt8) : Option (Bool) :=
 let j0 : Unit -> Option _ := fun s1 =>
 ((spec_l1In ((a0.length : Nat) : Int) (1 : Int) (8 : Int)).bind fun r2 =>
 some r2)
 (loopM (σ := Int) (X := (Unit) ⊕ (Bool)) (fun s3 =>
 (if (decide (s3 < ((a0.length : Nat) : Int))) then
 (let j4 : Unit -> Option _ := fun s5 =>
 (some (.inl (i64 (s3 + (1 : Int)))))
 chk ((decide ((0 : Int) <= s3)) && (decide (s3 < ((a0.length : Nat) : Int)))) <|
 let v6 : Bool := (if (decide ((97 : Int) <= (((a0.getD (Int.toNat s3) 0).toNat : Nat) : Int))) then (decide ((((a0.getD (Int.toNat s3) 0).toNat : Nat) : Int) <= (122 : Int))) else false)
 let v7 : Bool := (if (decide ((48 : Int) <= (((a0.getD (Int.toNat s3) 0).toNat : Nat) : Int))) then (decide ((((a0.getD (Int.toNat s3) 0).toNat : Nat) : Int) <= (57 : Int))) else false)
 let v8 : Bool := (if v6 then true else v7)
 if (!v8) then
 (some (.inr (.inr false)))
 else
 j4 ())
 else
 some (.inr (.inl ())))) (0 : Int)).bind fun x9 =>
 sumE x9 (fun y10 =>
 j0 ()) (fun z11 =>
 some z11)
noncomputable def strings_Trim (a0 : List UInt8) (a1 : List UInt8) : Option (List UInt8) :=
 chk (ascii a1) <|
 chk (decide (((a0.length : Nat) : Int) <= (1000 : Int))) <|
 some (trim a0 a1)
noncomputable def impl_isKey (a0 : List UInt8) : Option (Bool) :=
 let v0 : Bool := (if (decide ((1 : Int) <= ((a0.length : Nat) : Int))) then (decide (((a0.length : Nat) : Int) <= (8 : Int))) else false)
 (if v0 then strings_Trim a0 ([97, 98, 99, 100, 101, 102, 103, 104, 105, 106, 107, 108, 109, 110, 111, 112, 113, 114, 115, 116, 117, 118, 119, 120, 121, 122, 48, 49, 50, 51, 52, 53, 54, 55, 56, 57] : List UInt8) else some []).bind fun r1 =>
 let v2 : Bool := (if v0 then (decide (r1 = ([] : List UInt8))) else false)
 some v2
def kc (b : UInt8) : Bool := (Nat.ble 97 b.toNat && Nat.ble b.toNat 122) || (Nat.ble 48 b.toNat && Nat.ble b.toNat 57)
def isKy (l : List UInt8) : Bool := decide (1 <= l.length) && decide (l.length <= 8) && l.all kc
theorem zgR {A : Type} (p : A -> Bool) : ∀ l : List A, (l.dropWhile p = []) ↔ l.all p = true
 | [] => by simp
 | a :: l => by
   by_cases h : p a = true
   · simp [List.dropWhile, h, zgR p l]
   · simp [List.dropWhile, h]
theorem zhB {A : Type} (p : A -> Bool) : ∀ l : List A, (l.dropWhile p).all p = true -> l.dropWhile p = []
 | [], _ => rfl
 | a :: l, h => by
   by_cases ha : p a = true
   · simp only [List.dropWhile, ha] at h ⊢; exact zhB p l h
   · simp only [List.dropWhile, ha] at h; simp [ha] at h
theorem ziH (l cs : List UInt8) : (trim l cs = []) ↔ l.all (cs.contains ·) = true := by
 unfold trim
 rw [zgR]
 constructor
 · intro h
   rw [List.all_reverse] at h
   have := (zgR _ _).1 (zhB _ _ h)
   rwa [List.all_reverse] at this
 · intro h
   have : l.reverse.dropWhile (cs.contains ·) = [] := (zgR _ _).2 (by rw [List.all_reverse]; exact h)
   rw [this]; rfl
def kset : List UInt8 := [97, 98, 99, 100, 101, 102, 103, 104, 105, 106, 107, 108, 109, 110, 111, 112, 113, 114, 115, 116, 117, 118, 119, 120, 121, 122, 48, 49, 50, 51, 52, 53, 54, 55, 56, 57]
theorem zi1 : ∀ n, n < 256 -> kset.contains (UInt8.ofNat n) = kc (UInt8.ofNat n) := by decide +kernel
theorem zjd (b : UInt8) : kset.contains b = kc b := by
 have := zi1 b.toNat (UInt8.toNat_lt b)
 rwa [UInt8.ofNat_toNat] at this
theorem zfk (l : List UInt8) : impl_isKey l = some (isKy l) := by
 unfold impl_isKey isKy
 by_cases h1 : 1 <= l.length
 · by_cases h2 : l.length <= 8
   · have e1 : strings_Trim l kset = some (trim l kset) := by
      unfold strings_Trim
      have : ascii kset = true := by decide
      rw [this]
      simp (disch := omega) only [Cc, if_true, if_false]
     have e2 : decide (trim l kset = []) = l.all kc := by
      rw [Bool.eq_iff_iff, decide_eq_true_eq, ziH]
      simp only [zjd]
     unfold kset at e1 e2
     simp (disch := omega) only [Cc, if_true, if_false, e1, e2]
   · have h2' : ¬ (((l.length : Nat) : Int) <= 8) := by omega
     simp [h2, h2']
 · have h1' : ¬ ((1 : Int) <= ((l.length : Nat) : Int)) := by omega
   have h1'' : l.length = 0 := by omega
   simp only [h1', decide_false, Bool.false_eq_true, if_false, bind_some, h1'']
   rfl
theorem zjz (b : UInt8) : kc b = ((decide ((97 : Int) <= ((b.toNat : Nat) : Int)) && decide (((b.toNat : Nat) : Int) <= 122)) || (decide ((48 : Int) <= ((b.toNat : Nat) : Int)) && decide (((b.toNat : Nat) : Int) <= 57))) := by
 unfold kc
 have e : ∀ a b : Nat, Nat.ble a b = decide ((a : Int) <= (b : Int)) := fun a b => by
  rw [Bool.eq_iff_iff, decide_eq_true_eq, Nat.ble_eq]; omega
 simp only [e]; rfl
theorem zfb (l : List UInt8) (h : l.length <= 1000000000) : spec_l1Key l = some (isKy l) := by
 unfold spec_l1Key isKy
 refine zad (zdF (fun k : Nat => (k : Int)) l.length (fun k => !kc (l.getD k 0)) (.inr false) (.inl ()) ?_ ?_) ?_
 · intro k hk
   have hk1 : (k : Int) < l.length := by omega
   simp (disch := omega) only [Cc, if_true, if_false, ziG, zjC]
   rw [<- zjz]
   cases kc (l.getD k 0) <;> simp
 · simp
 · have : ((List.range l.length).any fun k => !kc (l.getD k 0)) = !l.all kc := by
    rw [zgu l 0 (fun b => !kc b)]
    rw [List.all_eq_not_any_not, Bool.not_not]
   rw [this]
   cases hk : l.all kc with
   | true =>
     simp only [Bool.not_true, Bool.false_eq_true, if_false, zfe, zds, bind_some, Bool.and_true]
     congr 2
     · simp only [decide_eq_decide]; omega
     · simp only [decide_eq_decide]; omega
   | false => simp
noncomputable def spec_l1Cur_key (a0 : List (Int)) (a1 : Int) (a2 : Int) : Option (Int × Int × List UInt8) :=
 (spec_l1Cur_one a0 a1 a2 (60 : Int)).bind fun r0 =>
 if r0.2.2 then
 (let v1 : List (List UInt8) := (([] : List UInt8) :: (([65] : List UInt8) :: (([49, 50, 51, 52, 53, 54, 55, 56, 57] : List UInt8) :: ([] : List (List UInt8)))))
 (spec_l1Cur_of a0 r0.1 r0.2.1 v1).bind fun r2 =>
 some (r2.1, r2.2.1, r2.2.2))
 else
 let v3 : List (List UInt8) := (([97] : List UInt8) :: (([98] : List UInt8) :: (([99] : List UInt8) :: (([100] : List UInt8) :: ([] : List (List UInt8))))))
 (spec_l1Cur_of a0 r0.1 r0.2.1 v3).bind fun r4 =>
 some (r4.1, r4.2.1, r4.2.2)
noncomputable def cmp_Compare_int (a0 : Int) (a1 : Int) : Option (Int) :=
 (cmp_isNaN_int a0).bind fun r0 =>
 (cmp_isNaN_int a1).bind fun r1 =>
 if r0 then
 (if r1 then
 (some (0 : Int))
 else
 some (-1 : Int))
 else
 if r1 then
 (some (1 : Int))
 else
 if (decide (a0 < a1)) then
 (some (-1 : Int))
 else
 if (decide (a1 < a0)) then
 (some (1 : Int))
 else
 some (0 : Int)
noncomputable def cmp_Or_int (a0 : List (Int)) : Option (Int) :=
 let j0 : Unit -> Option _ := fun s1 =>
 (some (0 : Int))
 (loopM (σ := Int) (X := (Unit) ⊕ (Int)) (fun s2 =>
 (if (decide (s2 < ((a0.length : Nat) : Int))) then
 (let j3 : Unit -> Option _ := fun s4 =>
 (some (.inl (i64 (s2 + (1 : Int)))))
 chk ((decide ((0 : Int) <= s2)) && (decide (s2 < ((a0.length : Nat) : Int)))) <|
 if (!decide ((a0.getD (Int.toNat s2) 0) = (0 : Int))) then
 (some (.inr (.inr (a0.getD (Int.toNat s2) 0))))
 else
 j3 ())
 else
 some (.inr (.inl ())))) (0 : Int)).bind fun x5 =>
 sumE x5 (fun y6 =>
 j0 ()) (fun z7 =>
 some z7)
theorem zjj (x y : Int) : cmp_Or_int (x :: y :: []) = some (if x = 0 then y else x) := by
 unfold cmp_Or_int
 have hl : (((x :: y :: [] : List Int).length : Nat) : Int) = 2 := rfl
 simp only [hl]
 by_cases hx : x = 0
 · by_cases hy : y = 0
   · refine zad (a := .inl ()) ?_ ?_
     · rw [zay]
       simp only [hx, hy]
       simp (config := { decide := true }) only [if_true, zah, Int.toNat_zero, List.getD_cons_zero, Bool.and_self, decide_true, Bool.not_true, Bool.false_eq_true, if_false]
       rw [zay]
       simp (config := { decide := true })
       rw [zay]
       simp (config := { decide := true })
     · simp [hx, hy]
   · refine zad (a := .inr y) ?_ ?_
     · rw [zay]
       simp only [hx]
       simp (config := { decide := true }) only [if_true, zah, Int.toNat_zero, List.getD_cons_zero, Bool.and_self, decide_true, Bool.not_true, Bool.false_eq_true, if_false]
       rw [zay]
       have e : i64 (0 + 1) = 1 := by decide
       have e1 : i64 1 = 1 := by decide
       simp [e, e1, hy]
     · simp [hx]
 · refine zad (a := .inr x) ?_ ?_
   · rw [zay]
     simp [hx]
   · simp [hx]
theorem ze0 (a b : Int) : cmp_Compare_int a b = some (if a < b then -1 else if b < a then 1 else 0) := by
 unfold cmp_Compare_int
 have e : ∀ x : Int, cmp_isNaN_int x = some false := fun x => by simp [cmp_isNaN_int]
 simp only [e, bind_some, Bool.false_eq_true, if_false]
 by_cases h1 : a < b
 · simp [h1]
 · by_cases h2 : b < a <;> simp [h1, h2]
def Byt (a : List Int) : Prop := ∀ b ∈ a, 0 <= b /\ b <= 255
theorem Byt.get {a : List Int} (h : Byt a) (k : Nat) : 0 <= a.getD k 0 /\ a.getD k 0 <= 255 := by
 by_cases hk : k < a.length
 · exact h _ (zaC hk 0)
 · rw [List.getD_eq_getElem?_getD, List.getElem?_eq_none (by omega)]; simp
theorem zgS (x : Int) : 0 <= ands .u64 x 255 /\ ands .u64 x 255 <= 255 := by
 unfold ands
 have h : (BitVec.ofInt IntKind.u64.bits x &&& BitVec.ofInt IntKind.u64.bits 255).toNat <= 255 := by
  rw [BitVec.toNat_and]
  exact Nat.le_trans Nat.and_le_right (by decide)
 have := zhN (x := ((BitVec.ofInt IntKind.u64.bits x &&& BitVec.ofInt IntKind.u64.bits 255).toNat : Int)) (by omega) (by omega)
 unfold u64 at this
 rw [this]; omega
theorem zh3 {a : List Int} {p h : Int} (hb : Byt a) (h0 : 0 <= p) (h1 : p <= 1000000000000000000) : Ok (spec_l1Cur_next a p h) (fun r => r.1 = p + 1 /\ 0 <= r.2.2 /\ r.2.2 <= 255) := by
 unfold spec_l1Cur_next
 refine Ok.bind (P := fun b => 0 <= b /\ b <= 255) ?_ ?_
 · refine Ok.ite (fun hc => ?_) fun hc => Ok.ret (by omega)
   have hc' : p < a.length := of_decide_eq_true hc
   have := hb.get p.toNat
   simp (disch := omega) only [Cc, if_true, if_false]
   exact Ok.ret (by omega)
 · intro b hb
   have := fun x => zgS x
   rw [zac (x := p + 1) (by omega) (by omega)]
   refine Ok.ite (fun hc => Ok.ret ⟨rfl, hb⟩) fun hc => Ok.ret ⟨rfl, ?_⟩
   generalize hq : ands .u64 _ 255 = q
   have := zgS (shrs .u64 (u64 ((u64 ((u64 (h * (6364136223846793005 : Int))) + (u64 b))) + (1442695040888963407 : Int))) (40 : Int))
   rw [hq] at this
   rw [zac (by omega) (by omega)]; exact this
theorem zc1 {a : List Int} {p h : Int} (hb : Byt a) (h0 : 0 <= p) (h1 : p <= 100000000000000000) (n : Int) : Ok (spec_l1Cur_pick a p h n) (fun r => p <= r.1 /\ r.1 <= p + 2 /\ 0 <= r.2.2 /\ r.2.2 <= max 0 (n - 1)) := by
 unfold spec_l1Cur_pick
 refine Ok.ite (fun hc => Ok.ret (by dsimp only; omega)) fun hc => ?_
 have hn : ¬ n <= 1 := by simpa using hc
 refine Ok.bind (zh3 hb h0 (by omega)) fun r hr => ?_
 refine Ok.bind (P := fun s => p <= s.1 /\ s.1 <= p + 2 /\ 0 <= s.2.2) ?_ ?_
 · refine Ok.ite (fun hc => ?_) fun hc => Ok.ret (by dsimp only; omega)
   refine Ok.bind (zh3 hb (by omega) (by omega)) fun q hq => ?_
   simp (disch := omega) only [Cc, if_true, if_false]
   exact Ok.ret (by dsimp only; omega)
 · intro s hs
   simp (disch := omega) only [Cc, if_true, if_false]
   refine Ok.ret ⟨hs.1, hs.2.1, ?_, ?_⟩
   · exact Int.tmod_nonneg _ hs.2.2
   · have := Int.tmod_lt_of_pos s.2.2 (show 0 < n by omega)
     dsimp only; omega
theorem zeT {a : List Int} {p h : Int} (hb : Byt a) (h0 : 0 <= p) (h1 : p <= 100000000000000000) (n : Int) : Ok (spec_l1Cur_one a p h n) (fun r => p <= r.1 /\ r.1 <= p + 2) := by
 unfold spec_l1Cur_one
 exact Ok.bind (zc1 hb h0 h1 n) fun r hr => Ok.ret ⟨hr.1, hr.2.1⟩
theorem Ok.bb {A B D : Type} {m : Option A} {f : A -> Option B} {g : B -> Option D} {Q : D -> Prop} (h : Ok (m.bind fun a => (f a).bind g) Q) : Ok ((m.bind f).bind g) Q := by
 cases m <;> exact h
theorem Ok.bs {A B : Type} {a : A} {f : A -> Option B} {Q : B -> Prop} (h : Ok (f a) Q) : Ok ((some a).bind f) Q := h
theorem Ok.bi {A B : Type} {c : Prop} [Decidable c] {a b : Option A} {f : A -> Option B} {Q : B -> Prop} (h : c -> Ok (a.bind f) Q) (k : ¬ c -> Ok (b.bind f) Q) : Ok ((if c then a else b).bind f) Q := by
 split
 · exact h ‹_›
 · exact k ‹_›
theorem Ok.bc {A B : Type} {c : Bool} {m : Option A} {f : A -> Option B} {Q : B -> Prop} (h : c = true) (k : Ok (m.bind f) Q) : Ok ((Sh.chk c m).bind f) Q := by rw [zbE h]; exact k
theorem Ok.bid {A B : Type} {c : Prop} [Decidable c] {a b : Option A} {f : A -> Option B} {Q : B -> Prop} (h : c -> Ok (a.bind f) Q) (k : ¬ c -> Ok (b.bind f) Q) : Ok ((if decide c = true then a else b).bind f) Q :=
 Ok.bi (fun hc => h (of_decide_eq_true hc)) fun hc => k (of_decide_eq_false (by simpa using hc))
theorem Ok.ited {A : Type} {c : Prop} [Decidable c] {a b : Option A} {Q : A -> Prop} (h : c -> Ok a Q) (k : ¬ c -> Ok b Q) : Ok (if decide c = true then a else b) Q :=
 Ok.ite (fun hc => h (of_decide_eq_true hc)) fun hc => k (of_decide_eq_false (by simpa using hc))
theorem Ok.be {A B : Type} {m : Option A} {a : A} {f : A -> Option B} {Q : B -> Prop} (h : m = some a) (k : Ok (f a) Q) : Ok (m.bind f) Q := by rw [h]; exact k
theorem Ok.any {A : Type} {m : Option A} {Q : A -> Prop} (h : Ok m Q) : Ok m fun _ => True := h.mono fun _ _ => trivial
theorem ziQ {a : List Int} {p h : Int} (hb : Byt a) (h0 : 0 <= p) (h1 : p <= 100000000000000000) {l : List (List UInt8)} (hl : l ≠ []) : Ok (spec_l1Cur_of a p h l) (fun r => p <= r.1 /\ r.1 <= p + 2 /\ r.2.2 ∈ l) := by
 unfold spec_l1Cur_of
 refine Ok.bind (zc1 hb h0 h1 _) fun r hr => ?_
 have hlen : 0 < l.length := List.length_pos_iff.2 hl
 simp (disch := omega) only [Cc, if_true, if_false]
 exact Ok.ret ⟨hr.1, hr.2.1, zaC (by omega) _⟩
theorem zjy {a : List Int} {p h : Int} (hb : Byt a) (h0 : 0 <= p) (h1 : p <= 100000000000000000 - 10) : Ok (spec_l1Cur_key a p h) (fun r => p <= r.1 /\ r.1 <= p + 4 /\ r.2.2.length <= 9) := by
 unfold spec_l1Cur_key
 refine Ok.bind (zeT hb h0 (by omega) _) fun r hr => ?_
 refine Ok.ite (fun _ => ?_) fun _ => ?_
 · refine Ok.bind (ziQ hb (by omega) (by omega) (by simp)) fun s hs => ?_
   refine Ok.ret ⟨by dsimp only; omega, by dsimp only; omega, ?_⟩
   obtain ⟨_, _, hm⟩ := hs
   simp only [List.mem_cons, List.not_mem_nil, or_false] at hm
   rcases hm with h | h | h <;> simp [h]
 · refine Ok.bind (ziQ hb (by omega) (by omega) (by simp)) fun s hs => ?_
   refine Ok.ret ⟨by dsimp only; omega, by dsimp only; omega, ?_⟩
   obtain ⟨_, _, hm⟩ := hs
   simp only [List.mem_cons, List.not_mem_nil, or_false] at hm
   rcases hm with h | h | h | h <;> simp [h]
noncomputable def spec_l3Commit (a0 : List ((Int) × (Int) × List UInt8)) (a1 : Int) : Option (Int) :=
 let j0 : Unit -> Option _ := fun s1 =>
 (some (-1 : Int))
 (loopM (σ := Int) (X := (Unit) ⊕ (Int)) (fun s2 =>
 (if (decide (s2 < ((a0.length : Nat) : Int))) then
 (let j3 : Unit -> Option _ := fun s4 =>
 (some (.inl (i64 (s2 + (1 : Int)))))
 chk ((decide ((0 : Int) <= s2)) && (decide (s2 < ((a0.length : Nat) : Int)))) <|
 let v5 : (Int) × (Int) × List UInt8 := (a0.getD (Int.toNat s2) (0, (0, [])))
 let v6 : Bool := (if (decide (v5.2.1 = a1)) then (decide (v5.1 = (3 : Int))) else false)
 if v6 then
 (some (.inr (.inr s2)))
 else
 j3 ())
 else
 some (.inr (.inl ())))) (0 : Int)).bind fun x7 =>
 sumE x7 (fun y8 =>
 j0 ()) (fun z9 =>
 some z9)
noncomputable def spec_l1Cur_ops (a0 : List (Int)) (a1 : Int) (a2 : Int) : Option (Int × Int × List ((Int) × (Int) × List UInt8)) :=
 (spec_l1Cur_pick a0 a1 a2 (4 : Int)).bind fun r0 =>
 (spec_l1Cur_pick a0 r0.1 r0.2.1 (14 : Int)).bind fun r1 =>
 (spec_l1Cur_one a0 r1.1 r1.2.1 (20 : Int)).bind fun r2 =>
 (if r2.2.2 then
 (some (50 : Int) : Option (Int))
 else
 (some r1.2.2)).bind fun s3 =>
 ((loopM (σ := Int × Int × (List ((Int) × (Int) × List UInt8)) × Int) (X := Int × Int × List ((Int) × (Int) × List UInt8)) (fun s4 =>
 (if (decide ((0 : Int) < s4.2.2.2)) then
 (((spec_l1Cur_pick a0 s4.1 s4.2.1 (2 : Int)).bind fun r5 =>
 (spec_l1Cur_pick a0 r5.1 r5.2.1 (i64 ((1 : Int) + r0.2.2))).bind fun r6 =>
 (spec_l1Cur_key a0 r6.1 r6.2.1).bind fun r7 =>
 (spec_l1Cur_one a0 r7.1 r7.2.1 (60 : Int)).bind fun r8 =>
 (if r8.2.2 then
 (some ([] : List UInt8) : Option (List UInt8))
 else
 (some r7.2.2)).bind fun s9 =>
 let v10 : List ((Int) × (Int) × List UInt8) := (((i64 ((1 : Int) + r5.2.2)), ((i64 ((1 : Int) + r6.2.2)), s9)) :: ([] : List ((Int) × (Int) × List UInt8)))
 let v11 : List ((Int) × (Int) × List UInt8) := (s4.2.2.1 ++ v10)
 chk (decide (((v11.length : Nat) : Int) <= (4398046511104 : Int))) <|
 some (r8.1, r8.2.1, v11) : Option (Int × Int × List ((Int) × (Int) × List UInt8))).bind fun s12 =>
 some (.inl (s12.1, s12.2.1, s12.2.2, (i64 (s4.2.2.2 - (1 : Int))))))
 else
 some (.inr (s4.1, s4.2.1, s4.2.2.1)))) (r2.1, r2.2.1, ([] : List ((Int) × (Int) × List UInt8)), s3)).bind fun x13 =>
 some (x13.1, x13.2.1, x13.2.2) : Option (Int × Int × List ((Int) × (Int) × List UInt8))).bind fun s14 =>
 ((loopM (σ := Int × Int × (List ((Int) × (Int) × List UInt8)) × Int) (X := Int × Int × List ((Int) × (Int) × List UInt8)) (fun s15 =>
 (if (decide (s15.2.2.2 < ((s14.2.2.length : Nat) : Int))) then
 ((chk ((decide ((0 : Int) <= s15.2.2.2)) && (decide (s15.2.2.2 < ((s14.2.2.length : Nat) : Int)))) <|
 let v16 : (Int) × (Int) × List UInt8 := (s14.2.2.getD (Int.toNat s15.2.2.2) (0, (0, [])))
 let v17 : List ((Int) × (Int) × List UInt8) := ((v16.1, (v16.2.1, v16.2.2)) :: ([] : List ((Int) × (Int) × List UInt8)))
 let v18 : List ((Int) × (Int) × List UInt8) := (s15.2.2.1 ++ v17)
 chk (decide (((v18.length : Nat) : Int) <= (4398046511104 : Int))) <|
 chk ((decide ((0 : Int) <= (i64 (s15.2.2.2 + (1 : Int))))) && ((decide ((i64 (s15.2.2.2 + (1 : Int))) <= ((s14.2.2.length : Nat) : Int))) && (decide (((s14.2.2.length : Nat) : Int) <= ((s14.2.2.length : Nat) : Int))))) <|
 ((loopM (σ := Bool × Int) (X := Bool) (fun s19 =>
 (if (decide (s19.2 < (((s14.2.2.length : Nat) : Int) - (i64 (s15.2.2.2 + (1 : Int)))))) then
 ((chk ((decide ((0 : Int) <= s19.2)) && (decide (s19.2 < (((s14.2.2.length : Nat) : Int) - (i64 (s15.2.2.2 + (1 : Int))))))) <|
 chk (decide (0 <= ((i64 (s15.2.2.2 + (1 : Int))) + s19.2)) && decide (((i64 (s15.2.2.2 + (1 : Int))) + s19.2) < ((s14.2.2.length : Nat) : Int))) <|
 let v20 : (Int) × (Int) × List UInt8 := (s14.2.2.getD (Int.toNat ((i64 (s15.2.2.2 + (1 : Int))) + s19.2)) (0, (0, [])))
 let v21 : Bool := (if s19.1 then true else (decide (v20.2.1 = v16.2.1)))
 some v21 : Option (Bool)).bind fun s22 =>
 some (.inl (s22, (i64 (s19.2 + (1 : Int))))))
 else
 some (.inr s19.1))) (false, (0 : Int))).bind fun x23 =>
 some x23 : Option (Bool)).bind fun s24 =>
 (if (!s24) then spec_l1Cur_one a0 s15.1 s15.2.1 (3 : Int) else some (0, 0, false)).bind fun r25 =>
 let v26 : Int := (if (!s24) then r25.1 else s15.1)
 let v27 : Int := (if (!s24) then r25.2.1 else s15.2.1)
 let v28 : Bool := (if (!s24) then (!r25.2.2) else false)
 (if v28 then
 (let v29 : List ((Int) × (Int) × List UInt8) := (((3 : Int), (v16.2.1, ([] : List UInt8))) :: ([] : List ((Int) × (Int) × List UInt8)))
 let v30 : List ((Int) × (Int) × List UInt8) := (v18 ++ v29)
 chk (decide (((v30.length : Nat) : Int) <= (4398046511104 : Int))) <|
 some v30 : Option (List ((Int) × (Int) × List UInt8)))
 else
 (some v18)).bind fun s31 =>
 some (v26, v27, s31) : Option (Int × Int × List ((Int) × (Int) × List UInt8))).bind fun s32 =>
 some (.inl (s32.1, s32.2.1, s32.2.2, (i64 (s15.2.2.2 + (1 : Int))))))
 else
 some (.inr (s15.1, s15.2.1, s15.2.2.1)))) (s14.1, s14.2.1, ([] : List ((Int) × (Int) × List UInt8)), (0 : Int))).bind fun x33 =>
 some (x33.1, x33.2.1, x33.2.2) : Option (Int × Int × List ((Int) × (Int) × List UInt8))).bind fun s34 =>
 ((loopM (σ := Int × Int × (List ((Int) × (Int) × List UInt8)) × Int) (X := Int × Int × List ((Int) × (Int) × List UInt8)) (fun s35 =>
 (if (decide (s35.2.2.2 <= (i64 ((1 : Int) + r0.2.2)))) then
 (((spec_l3Commit s35.2.2.1 s35.2.2.2).bind fun r36 =>
 (if (decide (r36 < (0 : Int))) then spec_l1Cur_one a0 s35.1 s35.2.1 (40 : Int) else some (0, 0, false)).bind fun r37 =>
 let v38 : Int := (if (decide (r36 < (0 : Int))) then r37.1 else s35.1)
 let v39 : Int := (if (decide (r36 < (0 : Int))) then r37.2.1 else s35.2.1)
 let v40 : Bool := (if (decide (r36 < (0 : Int))) then (!r37.2.2) else false)
 (if v40 then
 (let v41 : List ((Int) × (Int) × List UInt8) := (((3 : Int), (s35.2.2.2, ([] : List UInt8))) :: ([] : List ((Int) × (Int) × List UInt8)))
 let v42 : List ((Int) × (Int) × List UInt8) := (s35.2.2.1 ++ v41)
 chk (decide (((v42.length : Nat) : Int) <= (4398046511104 : Int))) <|
 some v42 : Option (List ((Int) × (Int) × List UInt8)))
 else
 (some s35.2.2.1)).bind fun s43 =>
 some (v38, v39, s43) : Option (Int × Int × List ((Int) × (Int) × List UInt8))).bind fun s44 =>
 some (.inl (s44.1, s44.2.1, s44.2.2, (i64 (s35.2.2.2 + (1 : Int))))))
 else
 some (.inr (s35.1, s35.2.1, s35.2.2.1)))) (s34.1, s34.2.1, s34.2.2, (1 : Int))).bind fun x45 =>
 some (x45.1, x45.2.1, x45.2.2) : Option (Int × Int × List ((Int) × (Int) × List UInt8))).bind fun s46 =>
 some (s46.1, s46.2.1, s46.2.2)
noncomputable def impl_areOps (a0 : List ((Int) × (Int) × List UInt8)) : Option (Bool) :=
 let v0 : List (Bool) := (List.replicate (Int.toNat (9 : Int)) false)
 chk (decide (((v0.length : Nat) : Int) = (9 : Int))) <|
 let v1 : List (Bool) := (false :: (false :: (false :: (false :: (false :: (false :: (false :: (false :: (false :: ([] : List (Bool)))))))))))
 let v2 : List (Bool) := (List.replicate (Int.toNat (9 : Int)) false)
 chk (decide (((v2.length : Nat) : Int) = (9 : Int))) <|
 let v3 : List (Bool) := (false :: (false :: (false :: (false :: (false :: (false :: (false :: (false :: (false :: ([] : List (Bool)))))))))))
 let j4 : (List (Bool)) × List (Bool) -> Option _ := fun s5 =>
 (chk (!(decide (((a0.length : Nat) : Int) <= (60 : Int))) || (decide (((s5.2.length : Nat) : Int) = (9 : Int)))) <|
 chk (!(decide (((a0.length : Nat) : Int) <= (60 : Int))) || (decide (((s5.1.length : Nat) : Int) = (9 : Int)))) <|
 chk (!(decide (((a0.length : Nat) : Int) <= (60 : Int))) || (decide (0 <= (0 : Int)) && decide ((0 : Int) < ((s5.2.length : Nat) : Int)))) <|
 chk (!(decide (((a0.length : Nat) : Int) <= (60 : Int))) || (decide (0 <= (0 : Int)) && decide ((0 : Int) < ((s5.1.length : Nat) : Int)))) <|
 chk (!(decide (((a0.length : Nat) : Int) <= (60 : Int))) || (decide (0 <= (1 : Int)) && decide ((1 : Int) < ((s5.2.length : Nat) : Int)))) <|
 chk (!(decide (((a0.length : Nat) : Int) <= (60 : Int))) || (decide (0 <= (1 : Int)) && decide ((1 : Int) < ((s5.1.length : Nat) : Int)))) <|
 chk (!(decide (((a0.length : Nat) : Int) <= (60 : Int))) || (decide (0 <= (2 : Int)) && decide ((2 : Int) < ((s5.2.length : Nat) : Int)))) <|
 chk (!(decide (((a0.length : Nat) : Int) <= (60 : Int))) || (decide (0 <= (2 : Int)) && decide ((2 : Int) < ((s5.1.length : Nat) : Int)))) <|
 chk (!(decide (((a0.length : Nat) : Int) <= (60 : Int))) || (decide (0 <= (3 : Int)) && decide ((3 : Int) < ((s5.2.length : Nat) : Int)))) <|
 chk (!(decide (((a0.length : Nat) : Int) <= (60 : Int))) || (decide (0 <= (3 : Int)) && decide ((3 : Int) < ((s5.1.length : Nat) : Int)))) <|
 chk (!(decide (((a0.length : Nat) : Int) <= (60 : Int))) || (decide (0 <= (4 : Int)) && decide ((4 : Int) < ((s5.2.length : Nat) : Int)))) <|
 chk (!(decide (((a0.length : Nat) : Int) <= (60 : Int))) || (decide (0 <= (4 : Int)) && decide ((4 : Int) < ((s5.1.length : Nat) : Int)))) <|
 chk (!(decide (((a0.length : Nat) : Int) <= (60 : Int))) || (decide (0 <= (5 : Int)) && decide ((5 : Int) < ((s5.2.length : Nat) : Int)))) <|
 chk (!(decide (((a0.length : Nat) : Int) <= (60 : Int))) || (decide (0 <= (5 : Int)) && decide ((5 : Int) < ((s5.1.length : Nat) : Int)))) <|
 chk (!(decide (((a0.length : Nat) : Int) <= (60 : Int))) || (decide (0 <= (6 : Int)) && decide ((6 : Int) < ((s5.2.length : Nat) : Int)))) <|
 chk (!(decide (((a0.length : Nat) : Int) <= (60 : Int))) || (decide (0 <= (6 : Int)) && decide ((6 : Int) < ((s5.1.length : Nat) : Int)))) <|
 chk (!(decide (((a0.length : Nat) : Int) <= (60 : Int))) || (decide (0 <= (7 : Int)) && decide ((7 : Int) < ((s5.2.length : Nat) : Int)))) <|
 chk (!(decide (((a0.length : Nat) : Int) <= (60 : Int))) || (decide (0 <= (7 : Int)) && decide ((7 : Int) < ((s5.1.length : Nat) : Int)))) <|
 chk (!(decide (((a0.length : Nat) : Int) <= (60 : Int))) || (decide (0 <= (8 : Int)) && decide ((8 : Int) < ((s5.2.length : Nat) : Int)))) <|
 chk (!(decide (((a0.length : Nat) : Int) <= (60 : Int))) || (decide (0 <= (8 : Int)) && decide ((8 : Int) < ((s5.1.length : Nat) : Int)))) <|
 let v6 : Bool := (if (decide (((a0.length : Nat) : Int) <= (60 : Int))) then (((s5.2.getD (Int.toNat (0 : Int)) false) == (s5.1.getD (Int.toNat (0 : Int)) false)) && (((s5.2.getD (Int.toNat (1 : Int)) false) == (s5.1.getD (Int.toNat (1 : Int)) false)) && (((s5.2.getD (Int.toNat (2 : Int)) false) == (s5.1.getD (Int.toNat (2 : Int)) false)) && (((s5.2.getD (Int.toNat (3 : Int)) false) == (s5.1.getD (Int.toNat (3 : Int)) false)) && (((s5.2.getD (Int.toNat (4 : Int)) false) == (s5.1.getD (Int.toNat (4 : Int)) false)) && (((s5.2.getD (Int.toNat (5 : Int)) false) == (s5.1.getD (Int.toNat (5 : Int)) false)) && (((s5.2.getD (Int.toNat (6 : Int)) false) == (s5.1.getD (Int.toNat (6 : Int)) false)) && (((s5.2.getD (Int.toNat (7 : Int)) false) == (s5.1.getD (Int.toNat (7 : Int)) false)) && ((s5.2.getD (Int.toNat (8 : Int)) false) == (s5.1.getD (Int.toNat (8 : Int)) false)))))))))) else false)
 some v6)
 (loopM (σ := (List (Bool)) × (List (Bool)) × Int) (X := ((List (Bool)) × List (Bool)) ⊕ (Bool)) (fun s7 =>
 (if (decide (s7.2.2 < ((a0.length : Nat) : Int))) then
 (let j8 : (List (Bool)) × List (Bool) -> Option _ := fun s9 =>
 (some (.inl (s9.1, s9.2, (i64 (s7.2.2 + (1 : Int))))))
 chk ((decide ((0 : Int) <= s7.2.2)) && (decide (s7.2.2 < ((a0.length : Nat) : Int)))) <|
 let v10 : (Int) × (Int) × List UInt8 := (a0.getD (Int.toNat s7.2.2) (0, (0, [])))
 (impl_in v10.1 (1 : Int) (3 : Int)).bind fun r11 =>
 (if (!(!r11)) then impl_in v10.2.1 (1 : Int) (8 : Int) else some false).bind fun r12 =>
 let v13 : Bool := (if (!r11) then true else (!r12))
 chk (!(!v13) || ((decide ((0 : Int) <= v10.2.1)) && (decide (v10.2.1 < (9 : Int))))) <|
 chk (!(!v13) || ((decide ((0 : Int) <= v10.2.1)) && (decide (v10.2.1 < ((s7.1.length : Nat) : Int))))) <|
 let v14 : Bool := (if v13 then true else (s7.1.getD (Int.toNat v10.2.1) false))
 let v15 : Bool := (if (decide (v10.1 = (3 : Int))) then (!decide (v10.2.2 = ([] : List UInt8))) else false)
 let v16 : Bool := (if v14 then true else v15)
 (if ((!v16) && (!decide (v10.1 = (3 : Int)))) then impl_isKey v10.2.2 else some false).bind fun r17 =>
 let v18 : Bool := (if (!decide (v10.1 = (3 : Int))) then (!r17) else false)
 let v19 : Bool := (if v16 then true else v18)
 if v19 then
 (some (.inr (.inr false)))
 else
 chk ((decide ((0 : Int) <= v10.2.1)) && (decide (v10.2.1 < (9 : Int)))) <|
 chk ((decide ((0 : Int) <= v10.2.1)) && (decide (v10.2.1 < ((s7.2.1.length : Nat) : Int)))) <|
 let v20 : List (Bool) := (s7.2.1.set (Int.toNat v10.2.1) true)
 chk ((decide ((0 : Int) <= v10.2.1)) && (decide (v10.2.1 < (9 : Int)))) <|
 chk ((decide ((0 : Int) <= v10.2.1)) && (decide (v10.2.1 < ((s7.1.length : Nat) : Int)))) <|
 let v21 : List (Bool) := (s7.1.set (Int.toNat v10.2.1) (decide (v10.1 = (3 : Int))))
 j8 (v21, v20))
 else
 some (.inr (.inl (s7.1, s7.2.1))))) (v1, v3, (0 : Int))).bind fun x22 =>
 sumE x22 (fun y23 =>
 j4 (y23.1, y23.2)) (fun z24 =>
 some z24)
noncomputable def spec_GoodOps (a0 : List ((Int) × (Int) × List UInt8)) : Option (Bool) :=
 if (decide ((60 : Int) < ((a0.length : Nat) : Int))) then
 (some false)
 else
 let j0 : Unit -> Option _ := fun s1 =>
 (some true)
 (loopM (σ := Int) (X := (Unit) ⊕ (Bool)) (fun s2 =>
 (if (decide (s2 < ((a0.length : Nat) : Int))) then
 (let j3 : Unit -> Option _ := fun s4 =>
 (some (.inl (i64 (s2 + (1 : Int)))))
 chk ((decide ((0 : Int) <= s2)) && (decide (s2 < ((a0.length : Nat) : Int)))) <|
 let v5 : (Int) × (Int) × List UInt8 := (a0.getD (Int.toNat s2) (0, (0, [])))
 (spec_l1In v5.1 (1 : Int) (3 : Int)).bind fun r6 =>
 (if (!(!r6)) then spec_l1In v5.2.1 (1 : Int) (8 : Int) else some false).bind fun r7 =>
 let v8 : Bool := (if (!r6) then true else (!r7))
 let v9 : Bool := (if v8 then true else ((decide (v5.1 = (3 : Int))) != (decide (v5.2.2 = ([] : List UInt8)))))
 (if ((!v9) && (!decide (v5.2.2 = ([] : List UInt8)))) then spec_l1Key v5.2.2 else some false).bind fun r10 =>
 let v11 : Bool := (if (!decide (v5.2.2 = ([] : List UInt8))) then (!r10) else false)
 let v12 : Bool := (if v9 then true else v11)
 if v12 then
 (some (.inr (.inr false)))
 else
 chk ((decide ((0 : Int) <= (i64 (s2 + (1 : Int))))) && ((decide ((i64 (s2 + (1 : Int))) <= ((a0.length : Nat) : Int))) && (decide (((a0.length : Nat) : Int) <= ((a0.length : Nat) : Int))))) <|
 ((loopM (σ := Bool × Bool × Int) (X := Bool × Bool) (fun s13 =>
 (if (decide (s13.2.2 < (((a0.length : Nat) : Int) - (i64 (s2 + (1 : Int)))))) then
 ((chk ((decide ((0 : Int) <= s13.2.2)) && (decide (s13.2.2 < (((a0.length : Nat) : Int) - (i64 (s2 + (1 : Int))))))) <|
 chk (decide (0 <= ((i64 (s2 + (1 : Int))) + s13.2.2)) && decide (((i64 (s2 + (1 : Int))) + s13.2.2) < ((a0.length : Nat) : Int))) <|
 let v14 : (Int) × (Int) × List UInt8 := (a0.getD (Int.toNat ((i64 (s2 + (1 : Int))) + s13.2.2)) (0, (0, [])))
 let v15 : Bool := (if s13.1 then true else (decide (v14.2.1 = v5.2.1)))
 let v16 : Bool := (if (decide (v14.2.1 = v5.2.1)) then (decide (v14.1 = (3 : Int))) else false)
 let v17 : Bool := (if s13.2.1 then true else v16)
 some (v15, v17) : Option (Bool × Bool)).bind fun s18 =>
 some (.inl (s18.1, s18.2, (i64 (s13.2.2 + (1 : Int))))))
 else
 some (.inr (s13.1, s13.2.1)))) (false, false, (0 : Int))).bind fun x19 =>
 some (x19.1, x19.2) : Option (Bool × Bool)).bind fun s20 =>
 let v21 : Bool := (if (decide (v5.1 = (3 : Int))) then s20.1 else false)
 let v22 : Bool := (if (!decide (v5.1 = (3 : Int))) then (!s20.2) else false)
 let v23 : Bool := (if v21 then true else v22)
 if v23 then
 (some (.inr (.inr false)))
 else
 j3 ())
 else
 some (.inr (.inl ())))) (0 : Int)).bind fun x24 =>
 sumE x24 (fun y25 =>
 j0 ()) (fun z26 =>
 some z26)
noncomputable def impl_txnsOf (a0 : List ((Int) × (Int) × List UInt8)) : Option (List (Int)) :=
 ((loopM (σ := (List (Int)) × Int) (X := List (Int)) (fun s0 =>
 (if (decide (s0.2 < ((a0.length : Nat) : Int))) then
 ((chk ((decide ((0 : Int) <= s0.2)) && (decide (s0.2 < ((a0.length : Nat) : Int)))) <|
 let v1 : (Int) × (Int) × List UInt8 := (a0.getD (Int.toNat s0.2) (0, (0, [])))
 (if (decide (v1.1 = (3 : Int))) then
 (let v2 : List (Int) := (v1.2.1 :: ([] : List (Int)))
 let v3 : List (Int) := (s0.1 ++ v2)
 chk (decide (((v3.length : Nat) : Int) <= (17592186044416 : Int))) <|
 some v3 : Option (List (Int)))
 else
 (some s0.1)).bind fun s4 =>
 some s4 : Option (List (Int))).bind fun s5 =>
 some (.inl (s5, (i64 (s0.2 + (1 : Int))))))
 else
 some (.inr s0.1))) (([] : List (Int)), (0 : Int))).bind fun x6 =>
 some x6 : Option (List (Int))).bind fun s7 =>
 (slices_Sort__int_int s7).bind fun r8 =>
 some r8
noncomputable def impl_sortPairs_1 (a0 : Int) (a1 : Int) (a2 : Int) (a3 : Int) : Option (Int) :=
 (cmp_Compare_int a0 a2).bind fun r0 =>
 (cmp_Compare_int a1 a3).bind fun r1 =>
 let v2 : List (Int) := (r0 :: (r1 :: ([] : List (Int))))
 (cmp_Or_int v2).bind fun r3 =>
 some r3
noncomputable def slices_insertionSortCmpFunc_impl_Pair (a0 : List ((Int) × Int)) (a1 : Int) (a2 : Int) : Option (List ((Int) × Int)) :=
 ((loopM (σ := (List ((Int) × Int)) × Int) (X := List ((Int) × Int)) (fun s0 =>
 (if (decide (s0.2 < a2)) then
 ((((loopM (σ := (List ((Int) × Int)) × Int) (X := List ((Int) × Int)) (fun s1 =>
 (chk (!(decide (a1 < s1.2)) || ((decide ((0 : Int) <= s1.2)) && (decide (s1.2 < ((s1.1.length : Nat) : Int))))) <|
 let v2 : (Int) × Int := (s1.1.getD (Int.toNat s1.2) (0, 0))
 chk (!(decide (a1 < s1.2)) || ((decide ((0 : Int) <= (i64 (s1.2 - (1 : Int))))) && (decide ((i64 (s1.2 - (1 : Int))) < ((s1.1.length : Nat) : Int))))) <|
 let v3 : (Int) × Int := (s1.1.getD (Int.toNat (i64 (s1.2 - (1 : Int)))) (0, 0))
 (if (decide (a1 < s1.2)) then impl_sortPairs_1 v2.1 v2.2 v3.1 v3.2 else some 0).bind fun r4 =>
 let v5 : Bool := (if (decide (a1 < s1.2)) then (decide (r4 < (0 : Int))) else false)
 if v5 then
 ((chk ((decide ((0 : Int) <= (i64 (s1.2 - (1 : Int))))) && (decide ((i64 (s1.2 - (1 : Int))) < ((s1.1.length : Nat) : Int)))) <|
 let v6 : (Int) × Int := (s1.1.getD (Int.toNat (i64 (s1.2 - (1 : Int)))) (0, 0))
 chk ((decide ((0 : Int) <= s1.2)) && (decide (s1.2 < ((s1.1.length : Nat) : Int)))) <|
 let v7 : (Int) × Int := (s1.1.getD (Int.toNat s1.2) (0, 0))
 chk ((decide ((0 : Int) <= s1.2)) && (decide (s1.2 < ((s1.1.length : Nat) : Int)))) <|
 let v8 : List ((Int) × Int) := (s1.1.set (Int.toNat s1.2) (v6.1, v6.2))
 chk ((decide ((0 : Int) <= (i64 (s1.2 - (1 : Int))))) && (decide ((i64 (s1.2 - (1 : Int))) < ((v8.length : Nat) : Int)))) <|
 let v9 : List ((Int) × Int) := (v8.set (Int.toNat (i64 (s1.2 - (1 : Int)))) (v7.1, v7.2))
 some v9 : Option (List ((Int) × Int))).bind fun s10 =>
 some (.inl (s10, (i64 (s1.2 - (1 : Int))))))
 else
 some (.inr s1.1))) (s0.1, s0.2)).bind fun x11 =>
 some x11 : Option (List ((Int) × Int))).bind fun s12 =>
 some s12 : Option (List ((Int) × Int))).bind fun s13 =>
 some (.inl (s13, (i64 (s0.2 + (1 : Int))))))
 else
 some (.inr s0.1))) (a0, (i64 (a1 + (1 : Int))))).bind fun x14 =>
 some x14 : Option (List ((Int) × Int))).bind fun s15 =>
 some s15
noncomputable def slices_siftDownCmpFunc_impl_Pair (a0 : List ((Int) × Int)) (a1 : Int) (a2 : Int) (a3 : Int) : Option (List ((Int) × Int)) :=
 let j0 : List ((Int) × Int) -> Option _ := fun s1 =>
 (some s1)
 (loopM (σ := (List ((Int) × Int)) × Int) (X := (List ((Int) × Int)) ⊕ (List ((Int) × Int))) (fun s2 =>
 (let j3 : (List ((Int) × Int)) × Int -> Option _ := fun s4 =>
 (some (.inl (s4.1, s4.2)))
 if (decide (a2 <= (i64 ((i64 ((2 : Int) * s2.2)) + (1 : Int))))) then
 (some (.inr (.inl s2.1)))
 else
 chk (!(decide ((i64 ((i64 ((i64 ((2 : Int) * s2.2)) + (1 : Int))) + (1 : Int))) < a2)) || ((decide ((0 : Int) <= (i64 (a3 + (i64 ((i64 ((2 : Int) * s2.2)) + (1 : Int))))))) && (decide ((i64 (a3 + (i64 ((i64 ((2 : Int) * s2.2)) + (1 : Int))))) < ((s2.1.length : Nat) : Int))))) <|
 let v5 : (Int) × Int := (s2.1.getD (Int.toNat (i64 (a3 + (i64 ((i64 ((2 : Int) * s2.2)) + (1 : Int)))))) (0, 0))
 chk (!(decide ((i64 ((i64 ((i64 ((2 : Int) * s2.2)) + (1 : Int))) + (1 : Int))) < a2)) || ((decide ((0 : Int) <= (i64 ((i64 (a3 + (i64 ((i64 ((2 : Int) * s2.2)) + (1 : Int))))) + (1 : Int))))) && (decide ((i64 ((i64 (a3 + (i64 ((i64 ((2 : Int) * s2.2)) + (1 : Int))))) + (1 : Int))) < ((s2.1.length : Nat) : Int))))) <|
 let v6 : (Int) × Int := (s2.1.getD (Int.toNat (i64 ((i64 (a3 + (i64 ((i64 ((2 : Int) * s2.2)) + (1 : Int))))) + (1 : Int)))) (0, 0))
 (if (decide ((i64 ((i64 ((i64 ((2 : Int) * s2.2)) + (1 : Int))) + (1 : Int))) < a2)) then impl_sortPairs_1 v5.1 v5.2 v6.1 v6.2 else some 0).bind fun r7 =>
 let v8 : Bool := (if (decide ((i64 ((i64 ((i64 ((2 : Int) * s2.2)) + (1 : Int))) + (1 : Int))) < a2)) then (decide (r7 < (0 : Int))) else false)
 (if v8 then
 (some (i64 ((i64 ((i64 ((2 : Int) * s2.2)) + (1 : Int))) + (1 : Int))) : Option (Int))
 else
 (some (i64 ((i64 ((2 : Int) * s2.2)) + (1 : Int))))).bind fun s9 =>
 chk ((decide ((0 : Int) <= (i64 (a3 + s2.2)))) && (decide ((i64 (a3 + s2.2)) < ((s2.1.length : Nat) : Int)))) <|
 let v10 : (Int) × Int := (s2.1.getD (Int.toNat (i64 (a3 + s2.2))) (0, 0))
 chk ((decide ((0 : Int) <= (i64 (a3 + s9)))) && (decide ((i64 (a3 + s9)) < ((s2.1.length : Nat) : Int)))) <|
 let v11 : (Int) × Int := (s2.1.getD (Int.toNat (i64 (a3 + s9))) (0, 0))
 (impl_sortPairs_1 v10.1 v10.2 v11.1 v11.2).bind fun r12 =>
 if (!(decide (r12 < (0 : Int)))) then
 (some (.inr (.inr s2.1)))
 else
 chk ((decide ((0 : Int) <= (i64 (a3 + s9)))) && (decide ((i64 (a3 + s9)) < ((s2.1.length : Nat) : Int)))) <|
 let v13 : (Int) × Int := (s2.1.getD (Int.toNat (i64 (a3 + s9))) (0, 0))
 chk ((decide ((0 : Int) <= (i64 (a3 + s2.2)))) && (decide ((i64 (a3 + s2.2)) < ((s2.1.length : Nat) : Int)))) <|
 let v14 : (Int) × Int := (s2.1.getD (Int.toNat (i64 (a3 + s2.2))) (0, 0))
 chk ((decide ((0 : Int) <= (i64 (a3 + s2.2)))) && (decide ((i64 (a3 + s2.2)) < ((s2.1.length : Nat) : Int)))) <|
 let v15 : List ((Int) × Int) := (s2.1.set (Int.toNat (i64 (a3 + s2.2))) (v13.1, v13.2))
 chk ((decide ((0 : Int) <= (i64 (a3 + s9)))) && (decide ((i64 (a3 + s9)) < ((v15.length : Nat) : Int)))) <|
 let v16 : List ((Int) × Int) := (v15.set (Int.toNat (i64 (a3 + s9))) (v14.1, v14.2))
 j3 (v16, s9))) (a0, a1)).bind fun x17 =>
 sumE x17 (fun y18 =>
 j0 y18) (fun z19 =>
 some z19)
noncomputable def slices_heapSortCmpFunc_impl_Pair (a0 : List ((Int) × Int)) (a1 : Int) (a2 : Int) : Option (List ((Int) × Int)) :=
 ((loopM (σ := (List ((Int) × Int)) × Int) (X := List ((Int) × Int)) (fun s0 =>
 (if (decide ((0 : Int) <= s0.2)) then
 (((slices_siftDownCmpFunc_impl_Pair s0.1 s0.2 (i64 (a2 - a1)) a1).bind fun r1 =>
 some r1 : Option (List ((Int) × Int))).bind fun s2 =>
 some (.inl (s2, (i64 (s0.2 - (1 : Int))))))
 else
 some (.inr s0.1))) (a0, (i64 (Int.tdiv (i64 ((i64 (a2 - a1)) - (1 : Int))) (2 : Int))))).bind fun x3 =>
 some x3 : Option (List ((Int) × Int))).bind fun s4 =>
 ((loopM (σ := (List ((Int) × Int)) × Int) (X := List ((Int) × Int)) (fun s5 =>
 (if (decide ((0 : Int) <= s5.2)) then
 ((chk ((decide ((0 : Int) <= (i64 (a1 + s5.2)))) && (decide ((i64 (a1 + s5.2)) < ((s5.1.length : Nat) : Int)))) <|
 let v6 : (Int) × Int := (s5.1.getD (Int.toNat (i64 (a1 + s5.2))) (0, 0))
 chk ((decide ((0 : Int) <= a1)) && (decide (a1 < ((s5.1.length : Nat) : Int)))) <|
 let v7 : (Int) × Int := (s5.1.getD (Int.toNat a1) (0, 0))
 chk ((decide ((0 : Int) <= a1)) && (decide (a1 < ((s5.1.length : Nat) : Int)))) <|
 let v8 : List ((Int) × Int) := (s5.1.set (Int.toNat a1) (v6.1, v6.2))
 chk ((decide ((0 : Int) <= (i64 (a1 + s5.2)))) && (decide ((i64 (a1 + s5.2)) < ((v8.length : Nat) : Int)))) <|
 let v9 : List ((Int) × Int) := (v8.set (Int.toNat (i64 (a1 + s5.2))) (v7.1, v7.2))
 (slices_siftDownCmpFunc_impl_Pair v9 (0 : Int) s5.2 a1).bind fun r10 =>
 some r10 : Option (List ((Int) × Int))).bind fun s11 =>
 some (.inl (s11, (i64 (s5.2 - (1 : Int))))))
 else
 some (.inr s5.1))) (s4, (i64 ((i64 (a2 - a1)) - (1 : Int))))).bind fun x12 =>
 some x12 : Option (List ((Int) × Int))).bind fun s13 =>
 some s13
noncomputable def slices_nextPowerOfTwo (a0 : Int) : Option (Int) :=
 (math_bits_Len (u64 a0)).bind fun r0 =>
 chk (decide ((0 : Int) <= r0)) <|
 some (shls .u64 (1 : Int) r0)
noncomputable def slices_xorshift_Next (a0 : Int) : Option (Int) :=
 some (xors .u64 (xors .u64 (xors .u64 a0 (shls .u64 a0 (13 : Int))) (shrs .u64 (xors .u64 a0 (shls .u64 a0 (13 : Int))) (7 : Int))) (shls .u64 (xors .u64 (xors .u64 a0 (shls .u64 a0 (13 : Int))) (shrs .u64 (xors .u64 a0 (shls .u64 a0 (13 : Int))) (7 : Int))) (17 : Int)))
noncomputable def slices_breakPatternsCmpFunc_impl_Pair (a0 : List ((Int) × Int)) (a1 : Int) (a2 : Int) : Option (List ((Int) × Int)) :=
 (if (decide ((8 : Int) <= (i64 (a2 - a1)))) then
 ((slices_nextPowerOfTwo (i64 (a2 - a1))).bind fun r0 =>
 ((loopM (σ := (List ((Int) × Int)) × Int × Int) (X := List ((Int) × Int)) (fun s1 =>
 (if (decide (s1.2.2 <= (i64 ((i64 (a1 + (i64 ((i64 (Int.tdiv (i64 (a2 - a1)) (4 : Int))) * (2 : Int))))) + (1 : Int))))) then
 (((slices_xorshift_Next s1.2.1).bind fun r2 =>
 (if (decide ((i64 (a2 - a1)) <= (i64 (ands .u64 r2 (u64 (r0 - (1 : Int))))))) then
 (some (i64 ((i64 (ands .u64 r2 (u64 (r0 - (1 : Int))))) - (i64 (a2 - a1)))) : Option (Int))
 else
 (some (i64 (ands .u64 r2 (u64 (r0 - (1 : Int))))))).bind fun s3 =>
 chk ((decide ((0 : Int) <= (i64 (a1 + s3)))) && (decide ((i64 (a1 + s3)) < ((s1.1.length : Nat) : Int)))) <|
 let v4 : (Int) × Int := (s1.1.getD (Int.toNat (i64 (a1 + s3))) (0, 0))
 chk ((decide ((0 : Int) <= s1.2.2)) && (decide (s1.2.2 < ((s1.1.length : Nat) : Int)))) <|
 let v5 : (Int) × Int := (s1.1.getD (Int.toNat s1.2.2) (0, 0))
 chk ((decide ((0 : Int) <= s1.2.2)) && (decide (s1.2.2 < ((s1.1.length : Nat) : Int)))) <|
 let v6 : List ((Int) × Int) := (s1.1.set (Int.toNat s1.2.2) (v4.1, v4.2))
 chk ((decide ((0 : Int) <= (i64 (a1 + s3)))) && (decide ((i64 (a1 + s3)) < ((v6.length : Nat) : Int)))) <|
 let v7 : List ((Int) × Int) := (v6.set (Int.toNat (i64 (a1 + s3))) (v5.1, v5.2))
 some (v7, r2) : Option ((List ((Int) × Int)) × Int)).bind fun s8 =>
 some (.inl (s8.1, s8.2, (i64 (s1.2.2 + (1 : Int))))))
 else
 some (.inr s1.1))) (a0, (u64 (i64 (a2 - a1))), (i64 ((i64 (a1 + (i64 ((i64 (Int.tdiv (i64 (a2 - a1)) (4 : Int))) * (2 : Int))))) - (1 : Int))))).bind fun x9 =>
 some x9 : Option (List ((Int) × Int))).bind fun s10 =>
 some s10 : Option (List ((Int) × Int)))
 else
 (some a0)).bind fun s11 =>
 some s11
noncomputable def slices_order2CmpFunc_impl_Pair (a0 : List ((Int) × Int)) (a1 : Int) (a2 : Int) (a3 : Int) : Option (Int × Int × Int) :=
 chk ((decide ((0 : Int) <= a2)) && (decide (a2 < ((a0.length : Nat) : Int)))) <|
 let v0 : (Int) × Int := (a0.getD (Int.toNat a2) (0, 0))
 chk ((decide ((0 : Int) <= a1)) && (decide (a1 < ((a0.length : Nat) : Int)))) <|
 let v1 : (Int) × Int := (a0.getD (Int.toNat a1) (0, 0))
 (impl_sortPairs_1 v0.1 v0.2 v1.1 v1.2).bind fun r2 =>
 if (decide (r2 < (0 : Int))) then
 (some ((i64 (a3 + (1 : Int))), a2, a1))
 else
 some (a3, a1, a2)
noncomputable def slices_medianCmpFunc_impl_Pair (a0 : List ((Int) × Int)) (a1 : Int) (a2 : Int) (a3 : Int) (a4 : Int) : Option (Int × Int) :=
 (slices_order2CmpFunc_impl_Pair a0 a1 a2 a4).bind fun r0 =>
 (slices_order2CmpFunc_impl_Pair a0 r0.2.2 a3 r0.1).bind fun r1 =>
 (slices_order2CmpFunc_impl_Pair a0 r0.2.1 r1.2.1 r1.1).bind fun r2 =>
 some (r2.1, r2.2.2)
noncomputable def slices_medianAdjacentCmpFunc_impl_Pair (a0 : List ((Int) × Int)) (a1 : Int) (a2 : Int) : Option (Int × Int) :=
 (slices_medianCmpFunc_impl_Pair a0 (i64 (a1 - (1 : Int))) a1 (i64 (a1 + (1 : Int))) a2).bind fun r0 =>
 some (r0.1, r0.2)
noncomputable def slices_choosePivotCmpFunc_impl_Pair (a0 : List ((Int) × Int)) (a1 : Int) (a2 : Int) : Option (Int × Int) :=
 (if (decide ((8 : Int) <= (i64 (a2 - a1)))) then
 ((if (decide ((50 : Int) <= (i64 (a2 - a1)))) then
 ((slices_medianAdjacentCmpFunc_impl_Pair a0 (i64 (a1 + (i64 ((i64 (Int.tdiv (i64 (a2 - a1)) (4 : Int))) * (1 : Int))))) (0 : Int)).bind fun r0 =>
 (slices_medianAdjacentCmpFunc_impl_Pair a0 (i64 (a1 + (i64 ((i64 (Int.tdiv (i64 (a2 - a1)) (4 : Int))) * (2 : Int))))) r0.1).bind fun r1 =>
 (slices_medianAdjacentCmpFunc_impl_Pair a0 (i64 (a1 + (i64 ((i64 (Int.tdiv (i64 (a2 - a1)) (4 : Int))) * (3 : Int))))) r1.1).bind fun r2 =>
 some (r2.1, r0.2, r1.2, r2.2) : Option (Int × Int × Int × Int))
 else
 (some ((0 : Int), (i64 (a1 + (i64 ((i64 (Int.tdiv (i64 (a2 - a1)) (4 : Int))) * (1 : Int))))), (i64 (a1 + (i64 ((i64 (Int.tdiv (i64 (a2 - a1)) (4 : Int))) * (2 : Int))))), (i64 (a1 + (i64 ((i64 (Int.tdiv (i64 (a2 - a1)) (4 : Int))) * (3 : Int)))))))).bind fun s3 =>
 (slices_medianCmpFunc_impl_Pair a0 s3.2.1 s3.2.2.1 s3.2.2.2 s3.1).bind fun r4 =>
 some (r4.1, r4.2) : Option (Int × Int))
 else
 (some ((0 : Int), (i64 (a1 + (i64 ((i64 (Int.tdiv (i64 (a2 - a1)) (4 : Int))) * (2 : Int)))))))).bind fun s5 =>
 if (decide (s5.1 = (0 : Int))) then
 (some (s5.2, (1 : Int)))
 else
 if (decide (s5.1 = (12 : Int))) then
 (some (s5.2, (2 : Int)))
 else
 some (s5.2, (0 : Int))
noncomputable def slices_reverseRangeCmpFunc_impl_Pair (a0 : List ((Int) × Int)) (a1 : Int) (a2 : Int) : Option (List ((Int) × Int)) :=
 ((loopM (σ := (List ((Int) × Int)) × Int × Int) (X := List ((Int) × Int)) (fun s0 =>
 (if (decide (s0.2.1 < s0.2.2)) then
 ((chk ((decide ((0 : Int) <= s0.2.2)) && (decide (s0.2.2 < ((s0.1.length : Nat) : Int)))) <|
 let v1 : (Int) × Int := (s0.1.getD (Int.toNat s0.2.2) (0, 0))
 chk ((decide ((0 : Int) <= s0.2.1)) && (decide (s0.2.1 < ((s0.1.length : Nat) : Int)))) <|
 let v2 : (Int) × Int := (s0.1.getD (Int.toNat s0.2.1) (0, 0))
 chk ((decide ((0 : Int) <= s0.2.1)) && (decide (s0.2.1 < ((s0.1.length : Nat) : Int)))) <|
 let v3 : List ((Int) × Int) := (s0.1.set (Int.toNat s0.2.1) (v1.1, v1.2))
 chk ((decide ((0 : Int) <= s0.2.2)) && (decide (s0.2.2 < ((v3.length : Nat) : Int)))) <|
 let v4 : List ((Int) × Int) := (v3.set (Int.toNat s0.2.2) (v2.1, v2.2))
 some v4 : Option (List ((Int) × Int))).bind fun s5 =>
 some (.inl (s5, (i64 (s0.2.1 + (1 : Int))), (i64 (s0.2.2 - (1 : Int))))))
 else
 some (.inr s0.1))) (a0, a1, (i64 (a2 - (1 : Int))))).bind fun x6 =>
 some x6 : Option (List ((Int) × Int))).bind fun s7 =>
 some s7
noncomputable def slices_partialInsertionSortCmpFunc_impl_Pair (a0 : List ((Int) × Int)) (a1 : Int) (a2 : Int) : Option ((List ((Int) × Int)) × Bool) :=
 let j0 : List ((Int) × Int) -> Option _ := fun s1 =>
 (some (s1, false))
 (loopM (σ := (List ((Int) × Int)) × Int × Int) (X := (List ((Int) × Int)) ⊕ ((List ((Int) × Int)) × Bool)) (fun s2 =>
 (if (decide (s2.2.2 < (5 : Int))) then
 (let j3 : (List ((Int) × Int)) × Int -> Option _ := fun s4 =>
 (some (.inl (s4.1, s4.2, (i64 (s2.2.2 + (1 : Int))))))
 ((loopM (σ := Int) (X := Int) (fun s5 =>
 (chk (!(decide (s5 < a2)) || ((decide ((0 : Int) <= s5)) && (decide (s5 < ((s2.1.length : Nat) : Int))))) <|
 let v6 : (Int) × Int := (s2.1.getD (Int.toNat s5) (0, 0))
 chk (!(decide (s5 < a2)) || ((decide ((0 : Int) <= (i64 (s5 - (1 : Int))))) && (decide ((i64 (s5 - (1 : Int))) < ((s2.1.length : Nat) : Int))))) <|
 let v7 : (Int) × Int := (s2.1.getD (Int.toNat (i64 (s5 - (1 : Int)))) (0, 0))
 (if (decide (s5 < a2)) then impl_sortPairs_1 v6.1 v6.2 v7.1 v7.2 else some 0).bind fun r8 =>
 let v9 : Bool := (if (decide (s5 < a2)) then (!(decide (r8 < (0 : Int)))) else false)
 if v9 then
 ((some () : Option (Unit)).bind fun s10 =>
 some (.inl (i64 (s5 + (1 : Int)))))
 else
 some (.inr s5))) s2.2.1).bind fun x11 =>
 some x11 : Option (Int)).bind fun s12 =>
 if (decide (s12 = a2)) then
 (some (.inr (.inr (s2.1, true))))
 else
 if (decide ((i64 (a2 - a1)) < (50 : Int))) then
 (some (.inr (.inr (s2.1, false))))
 else
 chk ((decide ((0 : Int) <= (i64 (s12 - (1 : Int))))) && (decide ((i64 (s12 - (1 : Int))) < ((s2.1.length : Nat) : Int)))) <|
 let v13 : (Int) × Int := (s2.1.getD (Int.toNat (i64 (s12 - (1 : Int)))) (0, 0))
 chk ((decide ((0 : Int) <= s12)) && (decide (s12 < ((s2.1.length : Nat) : Int)))) <|
 let v14 : (Int) × Int := (s2.1.getD (Int.toNat s12) (0, 0))
 chk ((decide ((0 : Int) <= s12)) && (decide (s12 < ((s2.1.length : Nat) : Int)))) <|
 let v15 : List ((Int) × Int) := (s2.1.set (Int.toNat s12) (v13.1, v13.2))
 chk ((decide ((0 : Int) <= (i64 (s12 - (1 : Int))))) && (decide ((i64 (s12 - (1 : Int))) < ((v15.length : Nat) : Int)))) <|
 let v16 : List ((Int) × Int) := (v15.set (Int.toNat (i64 (s12 - (1 : Int)))) (v14.1, v14.2))
 (if (decide ((2 : Int) <= (i64 (s12 - a1)))) then
 (((loopM (σ := (List ((Int) × Int)) × Int) (X := List ((Int) × Int)) (fun s17 =>
 (if (decide ((1 : Int) <= s17.2)) then
 (let j18 : List ((Int) × Int) -> Option _ := fun s19 =>
 (some (.inl (s19, (i64 (s17.2 - (1 : Int))))))
 chk ((decide ((0 : Int) <= s17.2)) && (decide (s17.2 < ((s17.1.length : Nat) : Int)))) <|
 let v20 : (Int) × Int := (s17.1.getD (Int.toNat s17.2) (0, 0))
 chk ((decide ((0 : Int) <= (i64 (s17.2 - (1 : Int))))) && (decide ((i64 (s17.2 - (1 : Int))) < ((s17.1.length : Nat) : Int)))) <|
 let v21 : (Int) × Int := (s17.1.getD (Int.toNat (i64 (s17.2 - (1 : Int)))) (0, 0))
 (impl_sortPairs_1 v20.1 v20.2 v21.1 v21.2).bind fun r22 =>
 if (!(decide (r22 < (0 : Int)))) then
 (some (.inr s17.1))
 else
 chk ((decide ((0 : Int) <= (i64 (s17.2 - (1 : Int))))) && (decide ((i64 (s17.2 - (1 : Int))) < ((s17.1.length : Nat) : Int)))) <|
 let v23 : (Int) × Int := (s17.1.getD (Int.toNat (i64 (s17.2 - (1 : Int)))) (0, 0))
 chk ((decide ((0 : Int) <= s17.2)) && (decide (s17.2 < ((s17.1.length : Nat) : Int)))) <|
 let v24 : (Int) × Int := (s17.1.getD (Int.toNat s17.2) (0, 0))
 chk ((decide ((0 : Int) <= s17.2)) && (decide (s17.2 < ((s17.1.length : Nat) : Int)))) <|
 let v25 : List ((Int) × Int) := (s17.1.set (Int.toNat s17.2) (v23.1, v23.2))
 chk ((decide ((0 : Int) <= (i64 (s17.2 - (1 : Int))))) && (decide ((i64 (s17.2 - (1 : Int))) < ((v25.length : Nat) : Int)))) <|
 let v26 : List ((Int) × Int) := (v25.set (Int.toNat (i64 (s17.2 - (1 : Int)))) (v24.1, v24.2))
 j18 v26)
 else
 some (.inr s17.1))) (v16, (i64 (s12 - (1 : Int))))).bind fun x27 =>
 some x27 : Option (List ((Int) × Int))).bind fun s28 =>
 some s28 : Option (List ((Int) × Int)))
 else
 (some v16)).bind fun s29 =>
 (if (decide ((2 : Int) <= (i64 (a2 - s12)))) then
 (((loopM (σ := (List ((Int) × Int)) × Int) (X := List ((Int) × Int)) (fun s30 =>
 (if (decide (s30.2 < a2)) then
 (let j31 : List ((Int) × Int) -> Option _ := fun s32 =>
 (some (.inl (s32, (i64 (s30.2 + (1 : Int))))))
 chk ((decide ((0 : Int) <= s30.2)) && (decide (s30.2 < ((s30.1.length : Nat) : Int)))) <|
 let v33 : (Int) × Int := (s30.1.getD (Int.toNat s30.2) (0, 0))
 chk ((decide ((0 : Int) <= (i64 (s30.2 - (1 : Int))))) && (decide ((i64 (s30.2 - (1 : Int))) < ((s30.1.length : Nat) : Int)))) <|
 let v34 : (Int) × Int := (s30.1.getD (Int.toNat (i64 (s30.2 - (1 : Int)))) (0, 0))
 (impl_sortPairs_1 v33.1 v33.2 v34.1 v34.2).bind fun r35 =>
 if (!(decide (r35 < (0 : Int)))) then
 (some (.inr s30.1))
 else
 chk ((decide ((0 : Int) <= (i64 (s30.2 - (1 : Int))))) && (decide ((i64 (s30.2 - (1 : Int))) < ((s30.1.length : Nat) : Int)))) <|
 let v36 : (Int) × Int := (s30.1.getD (Int.toNat (i64 (s30.2 - (1 : Int)))) (0, 0))
 chk ((decide ((0 : Int) <= s30.2)) && (decide (s30.2 < ((s30.1.length : Nat) : Int)))) <|
 let v37 : (Int) × Int := (s30.1.getD (Int.toNat s30.2) (0, 0))
 chk ((decide ((0 : Int) <= s30.2)) && (decide (s30.2 < ((s30.1.length : Nat) : Int)))) <|
 let v38 : List ((Int) × Int) := (s30.1.set (Int.toNat s30.2) (v36.1, v36.2))
 chk ((decide ((0 : Int) <= (i64 (s30.2 - (1 : Int))))) && (decide ((i64 (s30.2 - (1 : Int))) < ((v38.length : Nat) : Int)))) <|
 let v39 : List ((Int) × Int) := (v38.set (Int.toNat (i64 (s30.2 - (1 : Int)))) (v37.1, v37.2))
 j31 v39)
 else
 some (.inr s30.1))) (s29, (i64 (s12 + (1 : Int))))).bind fun x40 =>
 some x40 : Option (List ((Int) × Int))).bind fun s41 =>
 some s41 : Option (List ((Int) × Int)))
 else
 (some s29)).bind fun s42 =>
 j3 (s42, s12))
 else
 some (.inr (.inl s2.1)))) (a0, (i64 (a1 + (1 : Int))), (0 : Int))).bind fun x43 =>
 sumE x43 (fun y44 =>
 j0 y44) (fun z45 =>
 some (z45.1, z45.2))
noncomputable def slices_partitionEqualCmpFunc_impl_Pair (a0 : List ((Int) × Int)) (a1 : Int) (a2 : Int) (a3 : Int) : Option ((List ((Int) × Int)) × Int) :=
 chk ((decide ((0 : Int) <= a3)) && (decide (a3 < ((a0.length : Nat) : Int)))) <|
 let v0 : (Int) × Int := (a0.getD (Int.toNat a3) (0, 0))
 chk ((decide ((0 : Int) <= a1)) && (decide (a1 < ((a0.length : Nat) : Int)))) <|
 let v1 : (Int) × Int := (a0.getD (Int.toNat a1) (0, 0))
 chk ((decide ((0 : Int) <= a1)) && (decide (a1 < ((a0.length : Nat) : Int)))) <|
 let v2 : List ((Int) × Int) := (a0.set (Int.toNat a1) (v0.1, v0.2))
 chk ((decide ((0 : Int) <= a3)) && (decide (a3 < ((v2.length : Nat) : Int)))) <|
 let v3 : List ((Int) × Int) := (v2.set (Int.toNat a3) (v1.1, v1.2))
 ((loopM (σ := (List ((Int) × Int)) × Int × Int) (X := (List ((Int) × Int)) × Int) (fun s4 =>
 (let j5 : (List ((Int) × Int)) × Int × Int -> Option _ := fun s6 =>
 (some (.inl (s6.1, s6.2.1, s6.2.2)))
 ((loopM (σ := Int) (X := Int) (fun s7 =>
 (chk (!(decide (s7 <= s4.2.2)) || ((decide ((0 : Int) <= a1)) && (decide (a1 < ((s4.1.length : Nat) : Int))))) <|
 let v8 : (Int) × Int := (s4.1.getD (Int.toNat a1) (0, 0))
 chk (!(decide (s7 <= s4.2.2)) || ((decide ((0 : Int) <= s7)) && (decide (s7 < ((s4.1.length : Nat) : Int))))) <|
 let v9 : (Int) × Int := (s4.1.getD (Int.toNat s7) (0, 0))
 (if (decide (s7 <= s4.2.2)) then impl_sortPairs_1 v8.1 v8.2 v9.1 v9.2 else some 0).bind fun r10 =>
 let v11 : Bool := (if (decide (s7 <= s4.2.2)) then (!(decide (r10 < (0 : Int)))) else false)
 if v11 then
 ((some () : Option (Unit)).bind fun s12 =>
 some (.inl (i64 (s7 + (1 : Int)))))
 else
 some (.inr s7))) s4.2.1).bind fun x13 =>
 some x13 : Option (Int)).bind fun s14 =>
 ((loopM (σ := Int) (X := Int) (fun s15 =>
 (chk (!(decide (s14 <= s15)) || ((decide ((0 : Int) <= a1)) && (decide (a1 < ((s4.1.length : Nat) : Int))))) <|
 let v16 : (Int) × Int := (s4.1.getD (Int.toNat a1) (0, 0))
 chk (!(decide (s14 <= s15)) || ((decide ((0 : Int) <= s15)) && (decide (s15 < ((s4.1.length : Nat) : Int))))) <|
 let v17 : (Int) × Int := (s4.1.getD (Int.toNat s15) (0, 0))
 (if (decide (s14 <= s15)) then impl_sortPairs_1 v16.1 v16.2 v17.1 v17.2 else some 0).bind fun r18 =>
 let v19 : Bool := (if (decide (s14 <= s15)) then (decide (r18 < (0 : Int))) else false)
 if v19 then
 ((some () : Option (Unit)).bind fun s20 =>
 some (.inl (i64 (s15 - (1 : Int)))))
 else
 some (.inr s15))) s4.2.2).bind fun x21 =>
 some x21 : Option (Int)).bind fun s22 =>
 if (decide (s22 < s14)) then
 (some (.inr (s4.1, s14)))
 else
 chk ((decide ((0 : Int) <= s22)) && (decide (s22 < ((s4.1.length : Nat) : Int)))) <|
 let v23 : (Int) × Int := (s4.1.getD (Int.toNat s22) (0, 0))
 chk ((decide ((0 : Int) <= s14)) && (decide (s14 < ((s4.1.length : Nat) : Int)))) <|
 let v24 : (Int) × Int := (s4.1.getD (Int.toNat s14) (0, 0))
 chk ((decide ((0 : Int) <= s14)) && (decide (s14 < ((s4.1.length : Nat) : Int)))) <|
 let v25 : List ((Int) × Int) := (s4.1.set (Int.toNat s14) (v23.1, v23.2))
 chk ((decide ((0 : Int) <= s22)) && (decide (s22 < ((v25.length : Nat) : Int)))) <|
 let v26 : List ((Int) × Int) := (v25.set (Int.toNat s22) (v24.1, v24.2))
 j5 (v26, (i64 (s14 + (1 : Int))), (i64 (s22 - (1 : Int)))))) (v3, (i64 (a1 + (1 : Int))), (i64 (a2 - (1 : Int))))).bind fun x27 =>
 some (x27.1, x27.2) : Option ((List ((Int) × Int)) × Int)).bind fun s28 =>
 some (s28.1, s28.2)
noncomputable def slices_partitionCmpFunc_impl_Pair (a0 : List ((Int) × Int)) (a1 : Int) (a2 : Int) (a3 : Int) : Option ((List ((Int) × Int)) × Int × Bool) :=
 chk ((decide ((0 : Int) <= a3)) && (decide (a3 < ((a0.length : Nat) : Int)))) <|
 let v0 : (Int) × Int := (a0.getD (Int.toNat a3) (0, 0))
 chk ((decide ((0 : Int) <= a1)) && (decide (a1 < ((a0.length : Nat) : Int)))) <|
 let v1 : (Int) × Int := (a0.getD (Int.toNat a1) (0, 0))
 chk ((decide ((0 : Int) <= a1)) && (decide (a1 < ((a0.length : Nat) : Int)))) <|
 let v2 : List ((Int) × Int) := (a0.set (Int.toNat a1) (v0.1, v0.2))
 chk ((decide ((0 : Int) <= a3)) && (decide (a3 < ((v2.length : Nat) : Int)))) <|
 let v3 : List ((Int) × Int) := (v2.set (Int.toNat a3) (v1.1, v1.2))
 ((loopM (σ := Int) (X := Int) (fun s4 =>
 (chk (!(decide (s4 <= (i64 (a2 - (1 : Int))))) || ((decide ((0 : Int) <= s4)) && (decide (s4 < ((v3.length : Nat) : Int))))) <|
 let v5 : (Int) × Int := (v3.getD (Int.toNat s4) (0, 0))
 chk (!(decide (s4 <= (i64 (a2 - (1 : Int))))) || ((decide ((0 : Int) <= a1)) && (decide (a1 < ((v3.length : Nat) : Int))))) <|
 let v6 : (Int) × Int := (v3.getD (Int.toNat a1) (0, 0))
 (if (decide (s4 <= (i64 (a2 - (1 : Int))))) then impl_sortPairs_1 v5.1 v5.2 v6.1 v6.2 else some 0).bind fun r7 =>
 let v8 : Bool := (if (decide (s4 <= (i64 (a2 - (1 : Int))))) then (decide (r7 < (0 : Int))) else false)
 if v8 then
 ((some () : Option (Unit)).bind fun s9 =>
 some (.inl (i64 (s4 + (1 : Int)))))
 else
 some (.inr s4))) (i64 (a1 + (1 : Int)))).bind fun x10 =>
 some x10 : Option (Int)).bind fun s11 =>
 ((loopM (σ := Int) (X := Int) (fun s12 =>
 (chk (!(decide (s11 <= s12)) || ((decide ((0 : Int) <= s12)) && (decide (s12 < ((v3.length : Nat) : Int))))) <|
 let v13 : (Int) × Int := (v3.getD (Int.toNat s12) (0, 0))
 chk (!(decide (s11 <= s12)) || ((decide ((0 : Int) <= a1)) && (decide (a1 < ((v3.length : Nat) : Int))))) <|
 let v14 : (Int) × Int := (v3.getD (Int.toNat a1) (0, 0))
 (if (decide (s11 <= s12)) then impl_sortPairs_1 v13.1 v13.2 v14.1 v14.2 else some 0).bind fun r15 =>
 let v16 : Bool := (if (decide (s11 <= s12)) then (!(decide (r15 < (0 : Int)))) else false)
 if v16 then
 ((some () : Option (Unit)).bind fun s17 =>
 some (.inl (i64 (s12 - (1 : Int)))))
 else
 some (.inr s12))) (i64 (a2 - (1 : Int)))).bind fun x18 =>
 some x18 : Option (Int)).bind fun s19 =>
 if (decide (s19 < s11)) then
 (chk ((decide ((0 : Int) <= a1)) && (decide (a1 < ((v3.length : Nat) : Int)))) <|
 let v20 : (Int) × Int := (v3.getD (Int.toNat a1) (0, 0))
 chk ((decide ((0 : Int) <= s19)) && (decide (s19 < ((v3.length : Nat) : Int)))) <|
 let v21 : (Int) × Int := (v3.getD (Int.toNat s19) (0, 0))
 chk ((decide ((0 : Int) <= s19)) && (decide (s19 < ((v3.length : Nat) : Int)))) <|
 let v22 : List ((Int) × Int) := (v3.set (Int.toNat s19) (v20.1, v20.2))
 chk ((decide ((0 : Int) <= a1)) && (decide (a1 < ((v22.length : Nat) : Int)))) <|
 let v23 : List ((Int) × Int) := (v22.set (Int.toNat a1) (v21.1, v21.2))
 some (v23, s19, true))
 else
 chk ((decide ((0 : Int) <= s19)) && (decide (s19 < ((v3.length : Nat) : Int)))) <|
 let v24 : (Int) × Int := (v3.getD (Int.toNat s19) (0, 0))
 chk ((decide ((0 : Int) <= s11)) && (decide (s11 < ((v3.length : Nat) : Int)))) <|
 let v25 : (Int) × Int := (v3.getD (Int.toNat s11) (0, 0))
 chk ((decide ((0 : Int) <= s11)) && (decide (s11 < ((v3.length : Nat) : Int)))) <|
 let v26 : List ((Int) × Int) := (v3.set (Int.toNat s11) (v24.1, v24.2))
 chk ((decide ((0 : Int) <= s19)) && (decide (s19 < ((v26.length : Nat) : Int)))) <|
 let v27 : List ((Int) × Int) := (v26.set (Int.toNat s19) (v25.1, v25.2))
 ((loopM (σ := (List ((Int) × Int)) × Int × Int) (X := (List ((Int) × Int)) × Int) (fun s28 =>
 (let j29 : (List ((Int) × Int)) × Int × Int -> Option _ := fun s30 =>
 (some (.inl (s30.1, s30.2.1, s30.2.2)))
 ((loopM (σ := Int) (X := Int) (fun s31 =>
 (chk (!(decide (s31 <= s28.2.2)) || ((decide ((0 : Int) <= s31)) && (decide (s31 < ((s28.1.length : Nat) : Int))))) <|
 let v32 : (Int) × Int := (s28.1.getD (Int.toNat s31) (0, 0))
 chk (!(decide (s31 <= s28.2.2)) || ((decide ((0 : Int) <= a1)) && (decide (a1 < ((s28.1.length : Nat) : Int))))) <|
 let v33 : (Int) × Int := (s28.1.getD (Int.toNat a1) (0, 0))
 (if (decide (s31 <= s28.2.2)) then impl_sortPairs_1 v32.1 v32.2 v33.1 v33.2 else some 0).bind fun r34 =>
 let v35 : Bool := (if (decide (s31 <= s28.2.2)) then (decide (r34 < (0 : Int))) else false)
 if v35 then
 ((some () : Option (Unit)).bind fun s36 =>
 some (.inl (i64 (s31 + (1 : Int)))))
 else
 some (.inr s31))) s28.2.1).bind fun x37 =>
 some x37 : Option (Int)).bind fun s38 =>
 ((loopM (σ := Int) (X := Int) (fun s39 =>
 (chk (!(decide (s38 <= s39)) || ((decide ((0 : Int) <= s39)) && (decide (s39 < ((s28.1.length : Nat) : Int))))) <|
 let v40 : (Int) × Int := (s28.1.getD (Int.toNat s39) (0, 0))
 chk (!(decide (s38 <= s39)) || ((decide ((0 : Int) <= a1)) && (decide (a1 < ((s28.1.length : Nat) : Int))))) <|
 let v41 : (Int) × Int := (s28.1.getD (Int.toNat a1) (0, 0))
 (if (decide (s38 <= s39)) then impl_sortPairs_1 v40.1 v40.2 v41.1 v41.2 else some 0).bind fun r42 =>
 let v43 : Bool := (if (decide (s38 <= s39)) then (!(decide (r42 < (0 : Int)))) else false)
 if v43 then
 ((some () : Option (Unit)).bind fun s44 =>
 some (.inl (i64 (s39 - (1 : Int)))))
 else
 some (.inr s39))) s28.2.2).bind fun x45 =>
 some x45 : Option (Int)).bind fun s46 =>
 if (decide (s46 < s38)) then
 (some (.inr (s28.1, s46)))
 else
 chk ((decide ((0 : Int) <= s46)) && (decide (s46 < ((s28.1.length : Nat) : Int)))) <|
 let v47 : (Int) × Int := (s28.1.getD (Int.toNat s46) (0, 0))
 chk ((decide ((0 : Int) <= s38)) && (decide (s38 < ((s28.1.length : Nat) : Int)))) <|
 let v48 : (Int) × Int := (s28.1.getD (Int.toNat s38) (0, 0))
 chk ((decide ((0 : Int) <= s38)) && (decide (s38 < ((s28.1.length : Nat) : Int)))) <|
 let v49 : List ((Int) × Int) := (s28.1.set (Int.toNat s38) (v47.1, v47.2))
 chk ((decide ((0 : Int) <= s46)) && (decide (s46 < ((v49.length : Nat) : Int)))) <|
 let v50 : List ((Int) × Int) := (v49.set (Int.toNat s46) (v48.1, v48.2))
 j29 (v50, (i64 (s38 + (1 : Int))), (i64 (s46 - (1 : Int)))))) (v27, (i64 (s11 + (1 : Int))), (i64 (s19 - (1 : Int))))).bind fun x51 =>
 some (x51.1, x51.2) : Option ((List ((Int) × Int)) × Int)).bind fun s52 =>
 chk ((decide ((0 : Int) <= a1)) && (decide (a1 < ((s52.1.length : Nat) : Int)))) <|
 let v53 : (Int) × Int := (s52.1.getD (Int.toNat a1) (0, 0))
 chk ((decide ((0 : Int) <= s52.2)) && (decide (s52.2 < ((s52.1.length : Nat) : Int)))) <|
 let v54 : (Int) × Int := (s52.1.getD (Int.toNat s52.2) (0, 0))
 chk ((decide ((0 : Int) <= s52.2)) && (decide (s52.2 < ((s52.1.length : Nat) : Int)))) <|
 let v55 : List ((Int) × Int) := (s52.1.set (Int.toNat s52.2) (v53.1, v53.2))
 chk ((decide ((0 : Int) <= a1)) && (decide (a1 < ((v55.length : Nat) : Int)))) <|
 let v56 : List ((Int) × Int) := (v55.set (Int.toNat a1) (v54.1, v54.2))
 some (v56, s52.2, false)
noncomputable def slices_pdqsortCmpFunc_impl_Pair (a0 : List ((Int) × Int)) (a1 : Int) (a2 : Int) (a3 : Int) : Option (List ((Int) × Int)) :=
 (loopM (σ := (List ((Int) × Int)) × Int × Int) (X := List ((Int) × Int)) (fun s0 =>
 (let j1 : (List ((Int) × Int)) × Int × Int -> Option _ := fun s2 =>
 (some (.inl (s2.1, s2.2.1, s2.2.2)))
 if (decide ((i64 (a2 - s0.2.1)) <= (12 : Int))) then
 ((slices_insertionSortCmpFunc_impl_Pair s0.1 s0.2.1 a2).bind fun r3 =>
 some (.inr r3))
 else
 if (decide (s0.2.2 = (0 : Int))) then
 ((slices_heapSortCmpFunc_impl_Pair s0.1 s0.2.1 a2).bind fun r4 =>
 some (.inr r4))
 else
 (if (!true) then
 ((slices_breakPatternsCmpFunc_impl_Pair s0.1 s0.2.1 a2).bind fun r5 =>
 some (r5, (i64 (s0.2.2 - (1 : Int)))) : Option ((List ((Int) × Int)) × Int))
 else
 (some (s0.1, s0.2.2))).bind fun s6 =>
 (slices_choosePivotCmpFunc_impl_Pair s6.1 s0.2.1 a2).bind fun r7 =>
 (if (decide (r7.2 = (2 : Int))) then
 ((slices_reverseRangeCmpFunc_impl_Pair s6.1 s0.2.1 a2).bind fun r8 =>
 some (r8, (i64 ((i64 (a2 - (1 : Int))) - (i64 (r7.1 - s0.2.1)))), (1 : Int)) : Option ((List ((Int) × Int)) × Int × Int))
 else
 (some (s6.1, r7.1, r7.2))).bind fun s9 =>
 let v10 : Bool := (if true then true else false)
 let v11 : Bool := (if v10 then (decide (s9.2.2 = (1 : Int))) else false)
 let j12 : List ((Int) × Int) -> Option _ := fun s13 =>
 (chk (!(decide ((0 : Int) < s0.2.1)) || ((decide ((0 : Int) <= (i64 (s0.2.1 - (1 : Int))))) && (decide ((i64 (s0.2.1 - (1 : Int))) < ((s13.length : Nat) : Int))))) <|
 let v14 : (Int) × Int := (s13.getD (Int.toNat (i64 (s0.2.1 - (1 : Int)))) (0, 0))
 chk (!(decide ((0 : Int) < s0.2.1)) || ((decide ((0 : Int) <= s9.2.1)) && (decide (s9.2.1 < ((s13.length : Nat) : Int))))) <|
 let v15 : (Int) × Int := (s13.getD (Int.toNat s9.2.1) (0, 0))
 (if (decide ((0 : Int) < s0.2.1)) then impl_sortPairs_1 v14.1 v14.2 v15.1 v15.2 else some 0).bind fun r16 =>
 let v17 : Bool := (if (decide ((0 : Int) < s0.2.1)) then (!(decide (r16 < (0 : Int)))) else false)
 if v17 then
 ((slices_partitionEqualCmpFunc_impl_Pair s13 s0.2.1 a2 s9.2.1).bind fun r18 =>
 j1 (r18.1, r18.2, s6.2))
 else
 (slices_partitionCmpFunc_impl_Pair s13 s0.2.1 a2 s9.2.1).bind fun r19 =>
 if (decide ((i64 (r19.2.1 - s0.2.1)) < (i64 (a2 - r19.2.1)))) then
 (chk false <|
 none)
 else
 chk false <|
 none)
 if v11 then
 ((slices_partialInsertionSortCmpFunc_impl_Pair s9.1 s0.2.1 a2).bind fun r20 =>
 if r20.2 then
 (some (.inr r20.1))
 else
 j12 r20.1)
 else
 j12 s9.1)) (a0, a1, a3)).bind fun x21 =>
 some x21
noncomputable def pdqF (rec : List ((Int) × Int) -> Int -> Int -> Int -> Option (List ((Int) × Int))) (a0 : List ((Int) × Int)) (a1 : Int) (a2 : Int) (a3 : Int) : Option (List ((Int) × Int)) :=
 (loopM (σ := (List ((Int) × Int)) × Int × Int × Int × Bool × Bool) (X := List ((Int) × Int)) (fun s0 =>
 (let j1 : (List ((Int) × Int)) × Int × Int × Int × Bool × Bool -> Option _ := fun s2 =>
 (some (.inl (s2.1, s2.2.1, s2.2.2.1, s2.2.2.2.1, s2.2.2.2.2.1, s2.2.2.2.2.2)))
 if (decide ((i64 (s0.2.2.1 - s0.2.1)) <= (12 : Int))) then
 ((slices_insertionSortCmpFunc_impl_Pair s0.1 s0.2.1 s0.2.2.1).bind fun r3 =>
 some (.inr r3))
 else
 if (decide (s0.2.2.2.1 = (0 : Int))) then
 ((slices_heapSortCmpFunc_impl_Pair s0.1 s0.2.1 s0.2.2.1).bind fun r4 =>
 some (.inr r4))
 else
 (if (!s0.2.2.2.2.1) then
 ((slices_breakPatternsCmpFunc_impl_Pair s0.1 s0.2.1 s0.2.2.1).bind fun r5 =>
 some (r5, (i64 (s0.2.2.2.1 - (1 : Int)))) : Option ((List ((Int) × Int)) × Int))
 else
 (some (s0.1, s0.2.2.2.1))).bind fun s6 =>
 (slices_choosePivotCmpFunc_impl_Pair s6.1 s0.2.1 s0.2.2.1).bind fun r7 =>
 (if (decide (r7.2 = (2 : Int))) then
 ((slices_reverseRangeCmpFunc_impl_Pair s6.1 s0.2.1 s0.2.2.1).bind fun r8 =>
 some (r8, (i64 ((i64 (s0.2.2.1 - (1 : Int))) - (i64 (r7.1 - s0.2.1)))), (1 : Int)) : Option ((List ((Int) × Int)) × Int × Int))
 else
 (some (s6.1, r7.1, r7.2))).bind fun s9 =>
 let v10 : Bool := (if s0.2.2.2.2.1 then s0.2.2.2.2.2 else false)
 let v11 : Bool := (if v10 then (decide (s9.2.2 = (1 : Int))) else false)
 let j12 : List ((Int) × Int) -> Option _ := fun s13 =>
 (chk (!(decide ((0 : Int) < s0.2.1)) || ((decide ((0 : Int) <= (i64 (s0.2.1 - (1 : Int))))) && (decide ((i64 (s0.2.1 - (1 : Int))) < ((s13.length : Nat) : Int))))) <|
 let v14 : (Int) × Int := (s13.getD (Int.toNat (i64 (s0.2.1 - (1 : Int)))) (0, 0))
 chk (!(decide ((0 : Int) < s0.2.1)) || ((decide ((0 : Int) <= s9.2.1)) && (decide (s9.2.1 < ((s13.length : Nat) : Int))))) <|
 let v15 : (Int) × Int := (s13.getD (Int.toNat s9.2.1) (0, 0))
 (if (decide ((0 : Int) < s0.2.1)) then impl_sortPairs_1 v14.1 v14.2 v15.1 v15.2 else some 0).bind fun r16 =>
 let v17 : Bool := (if (decide ((0 : Int) < s0.2.1)) then (!(decide (r16 < (0 : Int)))) else false)
 if v17 then
 ((slices_partitionEqualCmpFunc_impl_Pair s13 s0.2.1 s0.2.2.1 s9.2.1).bind fun r18 =>
 j1 (r18.1, r18.2, s0.2.2.1, s6.2, s0.2.2.2.2.1, s0.2.2.2.2.2))
 else
 (slices_partitionCmpFunc_impl_Pair s13 s0.2.1 s0.2.2.1 s9.2.1).bind fun r19 =>
 (if (decide ((i64 (r19.2.1 - s0.2.1)) < (i64 (s0.2.2.1 - r19.2.1)))) then
 ((rec r19.1 s0.2.1 r19.2.1 s6.2).bind fun r20 =>
 some (r20, (i64 (r19.2.1 + (1 : Int))), s0.2.2.1, (decide ((i64 (Int.tdiv (i64 (s0.2.2.1 - s0.2.1)) (8 : Int))) <= (i64 (r19.2.1 - s0.2.1))))) : Option ((List ((Int) × Int)) × Int × Int × Bool))
 else
 ((rec r19.1 (i64 (r19.2.1 + (1 : Int))) s0.2.2.1 s6.2).bind fun r21 =>
 some (r21, s0.2.1, r19.2.1, (decide ((i64 (Int.tdiv (i64 (s0.2.2.1 - s0.2.1)) (8 : Int))) <= (i64 (s0.2.2.1 - r19.2.1))))))).bind fun s22 =>
 j1 (s22.1, s22.2.1, s22.2.2.1, s6.2, s22.2.2.2, r19.2.2))
 if v11 then
 ((slices_partialInsertionSortCmpFunc_impl_Pair s9.1 s0.2.1 s0.2.2.1).bind fun r23 =>
 if r23.2 then
 (some (.inr r23.1))
 else
 j12 r23.1)
 else
 j12 s9.1)) (a0, a1, a2, a3, true, true)).bind fun x24 =>
 some x24
noncomputable def slices_pdqsortCmpFunc_impl_Pair' (a0 : List ((Int) × Int)) (a1 : Int) (a2 : Int) (a3 : Int) : Option (List ((Int) × Int)) := pdqF slices_pdqsortCmpFunc_impl_Pair a0 a1 a2 a3
noncomputable def slices_pdqsortCmpFunc_impl_Pair'' (a0 : List ((Int) × Int)) (a1 : Int) (a2 : Int) (a3 : Int) : Option (List ((Int) × Int)) := pdqF slices_pdqsortCmpFunc_impl_Pair' a0 a1 a2 a3
noncomputable def slices_pdqsortCmpFunc_impl_Pair''' (a0 : List ((Int) × Int)) (a1 : Int) (a2 : Int) (a3 : Int) : Option (List ((Int) × Int)) := pdqF slices_pdqsortCmpFunc_impl_Pair'' a0 a1 a2 a3
noncomputable def slices_pdqsortCmpFunc_impl_Pair'''' (a0 : List ((Int) × Int)) (a1 : Int) (a2 : Int) (a3 : Int) : Option (List ((Int) × Int)) := pdqF slices_pdqsortCmpFunc_impl_Pair''' a0 a1 a2 a3
noncomputable def slices_pdqsortCmpFunc_impl_Pair''''' (a0 : List ((Int) × Int)) (a1 : Int) (a2 : Int) (a3 : Int) : Option (List ((Int) × Int)) := pdqF slices_pdqsortCmpFunc_impl_Pair'''' a0 a1 a2 a3
noncomputable def slices_pdqsortCmpFunc_impl_Pair'''''' (a0 : List ((Int) × Int)) (a1 : Int) (a2 : Int) (a3 : Int) : Option (List ((Int) × Int)) := pdqF slices_pdqsortCmpFunc_impl_Pair''''' a0 a1 a2 a3
noncomputable def slices_pdqsortCmpFunc_impl_Pair''''''' (a0 : List ((Int) × Int)) (a1 : Int) (a2 : Int) (a3 : Int) : Option (List ((Int) × Int)) := pdqF slices_pdqsortCmpFunc_impl_Pair'''''' a0 a1 a2 a3
noncomputable def slices_pdqsortCmpFunc_impl_Pair'''''''' (a0 : List ((Int) × Int)) (a1 : Int) (a2 : Int) (a3 : Int) : Option (List ((Int) × Int)) := pdqF slices_pdqsortCmpFunc_impl_Pair''''''' a0 a1 a2 a3
noncomputable def slices_pdqsortCmpFunc_impl_Pair''''''''' (a0 : List ((Int) × Int)) (a1 : Int) (a2 : Int) (a3 : Int) : Option (List ((Int) × Int)) := pdqF slices_pdqsortCmpFunc_impl_Pair'''''''' a0 a1 a2 a3
noncomputable def slices_SortFunc__impl_Pair_impl_Pair (a0 : List ((Int) × Int)) : Option (List ((Int) × Int)) :=
 (math_bits_Len (u64 ((a0.length : Nat) : Int))).bind fun r0 =>
 (slices_pdqsortCmpFunc_impl_Pair''''''''' a0 (0 : Int) ((a0.length : Nat) : Int) r0).bind fun r1 =>
 some r1
noncomputable def slices_Compact__impl_Pair_impl_Pair (a0 : List ((Int) × Int)) : Option ((List ((Int) × Int)) × Int) :=
 if (decide (((a0.length : Nat) : Int) < (2 : Int))) then
 (some (a0, ((a0.length : Nat) : Int)))
 else
 let j0 : Unit -> Option _ := fun s1 =>
 (some (a0, ((a0.length : Nat) : Int)))
 (loopM (σ := Int) (X := (Unit) ⊕ ((List ((Int) × Int)) × Int)) (fun s2 =>
 (if (decide (s2 < ((a0.length : Nat) : Int))) then
 (let j3 : Unit -> Option _ := fun s4 =>
 (some (.inl (i64 (s2 + (1 : Int)))))
 chk ((decide ((0 : Int) <= s2)) && (decide (s2 < ((a0.length : Nat) : Int)))) <|
 let v5 : (Int) × Int := (a0.getD (Int.toNat s2) (0, 0))
 chk ((decide ((0 : Int) <= (i64 (s2 - (1 : Int))))) && (decide ((i64 (s2 - (1 : Int))) < ((a0.length : Nat) : Int)))) <|
 let v6 : (Int) × Int := (a0.getD (Int.toNat (i64 (s2 - (1 : Int)))) (0, 0))
 if ((decide (v5.1 = v6.1)) && (decide (v5.2 = v6.2))) then
 (chk ((decide ((0 : Int) <= s2)) && ((decide (s2 <= ((a0.length : Nat) : Int))) && (decide (((a0.length : Nat) : Int) <= ((a0.length : Nat) : Int))))) <|
 ((loopM (σ := (List ((Int) × Int)) × Int × Int) (X := (List ((Int) × Int)) × Int) (fun s7 =>
 (if (decide (s7.2.2 < (((a0.length : Nat) : Int) - s2))) then
 ((chk ((decide ((0 : Int) <= s7.2.2)) && (decide (s7.2.2 < (((a0.length : Nat) : Int) - s2)))) <|
 chk (decide (0 <= (s2 + s7.2.2)) && decide ((s2 + s7.2.2) < ((s7.1.length : Nat) : Int))) <|
 let v8 : (Int) × Int := (s7.1.getD (Int.toNat (s2 + s7.2.2)) (0, 0))
 chk ((decide ((0 : Int) <= (i64 (s7.2.2 - (1 : Int))))) && (decide ((i64 (s7.2.2 - (1 : Int))) < (((a0.length : Nat) : Int) - s2)))) <|
 chk (decide (0 <= (s2 + (i64 (s7.2.2 - (1 : Int))))) && decide ((s2 + (i64 (s7.2.2 - (1 : Int)))) < ((s7.1.length : Nat) : Int))) <|
 let v9 : (Int) × Int := (s7.1.getD (Int.toNat (s2 + (i64 (s7.2.2 - (1 : Int))))) (0, 0))
 (if (!((decide (v8.1 = v9.1)) && (decide (v8.2 = v9.2)))) then
 (chk ((decide ((0 : Int) <= s7.2.2)) && (decide (s7.2.2 < (((a0.length : Nat) : Int) - s2)))) <|
 chk (decide (0 <= (s2 + s7.2.2)) && decide ((s2 + s7.2.2) < ((s7.1.length : Nat) : Int))) <|
 let v10 : (Int) × Int := (s7.1.getD (Int.toNat (s2 + s7.2.2)) (0, 0))
 chk ((decide ((0 : Int) <= s7.2.1)) && (decide (s7.2.1 < ((s7.1.length : Nat) : Int)))) <|
 let v11 : List ((Int) × Int) := (s7.1.set (Int.toNat s7.2.1) (v10.1, v10.2))
 some (v11, (i64 (s7.2.1 + (1 : Int)))) : Option ((List ((Int) × Int)) × Int))
 else
 (some (s7.1, s7.2.1))).bind fun s12 =>
 some (s12.1, s12.2) : Option ((List ((Int) × Int)) × Int)).bind fun s13 =>
 some (.inl (s13.1, s13.2, (i64 (s7.2.2 + (1 : Int))))))
 else
 some (.inr (s7.1, s7.2.1)))) (a0, s2, (1 : Int))).bind fun x14 =>
 some (x14.1, x14.2) : Option ((List ((Int) × Int)) × Int)).bind fun s15 =>
 chk ((decide ((0 : Int) <= s15.2)) && ((decide (s15.2 <= ((s15.1.length : Nat) : Int))) && (decide (((s15.1.length : Nat) : Int) <= ((s15.1.length : Nat) : Int))))) <|
 let v16 : List ((Int) × Int) := (((s15.1.take (Int.toNat s15.2)).drop (Int.toNat (0 : Int))) ++ ((List.replicate (Int.toNat (((s15.1.length : Nat) : Int) - s15.2)) ((0 : Int), (0 : Int))) ++ ((s15.1.take (Int.toNat ((s15.1.length : Nat) : Int))).drop (Int.toNat (s15.2 + (((s15.1.length : Nat) : Int) - s15.2))))))
 chk ((decide ((0 : Int) <= (0 : Int))) && ((decide ((0 : Int) <= s15.2)) && (decide (s15.2 <= ((v16.length : Nat) : Int))))) <|
 some (.inr (.inr (v16, s15.2))))
 else
 j3 ())
 else
 some (.inr (.inl ())))) (1 : Int)).bind fun x17 =>
 sumE x17 (fun y18 =>
 j0 ()) (fun z19 =>
 some (z19.1, z19.2))
noncomputable def impl_sortPairs (a0 : List ((Int) × Int)) : Option ((List ((Int) × Int)) × Int) :=
 (slices_SortFunc__impl_Pair_impl_Pair a0).bind fun r0 =>
 (slices_Compact__impl_Pair_impl_Pair r0).bind fun r1 =>
 some (r1.1, r1.2)
noncomputable def impl_conflicts (a0 : List ((Int) × (Int) × List UInt8)) : Option ((List ((Int) × Int)) × Int) :=
 ((loopM (σ := (List ((Int) × Int)) × Int) (X := List ((Int) × Int)) (fun s0 =>
 (if (decide (s0.2 < ((a0.length : Nat) : Int))) then
 ((chk ((decide ((0 : Int) <= s0.2)) && (decide (s0.2 < ((a0.length : Nat) : Int)))) <|
 let v1 : (Int) × (Int) × List UInt8 := (a0.getD (Int.toNat s0.2) (0, (0, [])))
 chk ((decide ((0 : Int) <= (0 : Int))) && ((decide ((0 : Int) <= s0.2)) && (decide (s0.2 <= ((a0.length : Nat) : Int))))) <|
 ((loopM (σ := (List ((Int) × Int)) × Int) (X := List ((Int) × Int)) (fun s2 =>
 (if (decide (s2.2 < s0.2)) then
 ((chk ((decide ((0 : Int) <= s2.2)) && (decide (s2.2 < s0.2))) <|
 chk (decide (0 <= s2.2) && decide (s2.2 < ((a0.length : Nat) : Int))) <|
 let v3 : (Int) × (Int) × List UInt8 := (a0.getD (Int.toNat s2.2) (0, (0, [])))
 let v4 : Bool := (if (!decide (v3.2.1 = v1.2.1)) then (!decide (v3.2.2 = ([] : List UInt8))) else false)
 let v5 : Bool := (if v4 then (decide (v3.2.2 = v1.2.2)) else false)
 let v6 : Bool := (if (decide (v3.1 = (2 : Int))) then true else (decide (v1.1 = (2 : Int))))
 let v7 : Bool := (if v5 then v6 else false)
 (if v7 then
 (let v8 : List ((Int) × Int) := ((v3.2.1, v1.2.1) :: ([] : List ((Int) × Int)))
 let v9 : List ((Int) × Int) := (s2.1 ++ v8)
 chk (decide (((v9.length : Nat) : Int) <= (8796093022208 : Int))) <|
 some v9 : Option (List ((Int) × Int)))
 else
 (some s2.1)).bind fun s10 =>
 some s10 : Option (List ((Int) × Int))).bind fun s11 =>
 some (.inl (s11, (i64 (s2.2 + (1 : Int))))))
 else
 some (.inr s2.1))) (s0.1, (0 : Int))).bind fun x12 =>
 some x12 : Option (List ((Int) × Int))).bind fun s13 =>
 some s13 : Option (List ((Int) × Int))).bind fun s14 =>
 some (.inl (s14, (i64 (s0.2 + (1 : Int))))))
 else
 some (.inr s0.1))) (([] : List ((Int) × Int)), (0 : Int))).bind fun x15 =>
 some x15 : Option (List ((Int) × Int))).bind fun s16 =>
 (impl_sortPairs s16).bind fun r17 =>
 some (r17.1, r17.2)
noncomputable def impl_SerialOrder_1_1 (a0 : Int) (a1 : Int) (a2 : Int) (a3 : List (Int)) : Option (Bool) :=
 (if (decide (a1 = a2)) then slices_Contains__int_int a3 a0 else some false).bind fun r0 =>
 let v1 : Bool := (if (decide (a1 = a2)) then r0 else false)
 some v1
noncomputable def slices_IndexFunc__impl_Pair_impl_Pair (a0 : List ((Int) × Int)) (a1 : Int) (a2 : List (Int)) : Option (Int) :=
 let j0 : Unit -> Option _ := fun s1 =>
 (some (-1 : Int))
 (loopM (σ := Int) (X := (Unit) ⊕ (Int)) (fun s2 =>
 (if (decide (s2 < ((a0.length : Nat) : Int))) then
 (let j3 : Unit -> Option _ := fun s4 =>
 (some (.inl (i64 (s2 + (1 : Int)))))
 chk ((decide ((0 : Int) <= s2)) && (decide (s2 < ((a0.length : Nat) : Int)))) <|
 let v5 : (Int) × Int := (a0.getD (Int.toNat s2) (0, 0))
 (impl_SerialOrder_1_1 v5.1 v5.2 a1 a2).bind fun r6 =>
 if r6 then
 (some (.inr (.inr s2)))
 else
 j3 ())
 else
 some (.inr (.inl ())))) (0 : Int)).bind fun x7 =>
 sumE x7 (fun y8 =>
 j0 ()) (fun z9 =>
 some z9)
noncomputable def slices_ContainsFunc__impl_Pair_impl_Pair (a0 : List ((Int) × Int)) (a1 : Int) (a2 : List (Int)) : Option (Bool) :=
 (slices_IndexFunc__impl_Pair_impl_Pair a0 a1 a2).bind fun r0 =>
 some (decide ((0 : Int) <= r0))
noncomputable def impl_SerialOrder_1 (a0 : Int) (a1 : List ((Int) × Int)) (a2 : List (Int)) : Option (Bool) :=
 (slices_ContainsFunc__impl_Pair_impl_Pair a1 a0 a2).bind fun r0 =>
 some (!r0)
noncomputable def slices_IndexFunc__int_int'''''' (a0 : List (Int)) (a1 : List ((Int) × Int)) (a2 : List (Int)) : Option (Int) :=
 let j0 : Unit -> Option _ := fun s1 =>
 (some (-1 : Int))
 (loopM (σ := Int) (X := (Unit) ⊕ (Int)) (fun s2 =>
 (if (decide (s2 < ((a0.length : Nat) : Int))) then
 (let j3 : Unit -> Option _ := fun s4 =>
 (some (.inl (i64 (s2 + (1 : Int)))))
 chk ((decide ((0 : Int) <= s2)) && (decide (s2 < ((a0.length : Nat) : Int)))) <|
 (impl_SerialOrder_1 (a0.getD (Int.toNat s2) 0) a1 a2).bind fun r5 =>
 if r5 then
 (some (.inr (.inr s2)))
 else
 j3 ())
 else
 some (.inr (.inl ())))) (0 : Int)).bind fun x6 =>
 sumE x6 (fun y7 =>
 j0 ()) (fun z8 =>
 some z8)
noncomputable def slices_Delete__int_int (a0 : List (Int)) (a1 : Int) (a2 : Int) : Option (List (Int)) :=
 chk (decide ((0 : Int) <= a1)) <|
 chk (decide (a1 <= a2)) <|
 chk (decide (a2 <= ((a0.length : Nat) : Int))) <|
 chk (decide (((a0.length : Nat) : Int) <= (140737488355328 : Int))) <|
 some (((a0.take (Int.toNat a1)).drop (Int.toNat (0 : Int))) ++ ((a0.take (Int.toNat ((a0.length : Nat) : Int))).drop (Int.toNat a2)))
noncomputable def impl_SerialOrder (a0 : List ((Int) × (Int) × List UInt8)) : Option ((List (Int)) × Bool) :=
 (impl_areOps a0).bind fun r0 =>
 if (!r0) then
 (some (([] : List (Int)), false))
 else
 (impl_txnsOf a0).bind fun r1 =>
 (impl_conflicts a0).bind fun r2 =>
 let j3 : List (Int) -> Option _ := fun s4 =>
 (some (s4, true))
 (loopM (σ := (List (Int)) × List (Int)) (X := (List (Int)) ⊕ ((List (Int)) × Bool)) (fun s5 =>
 (if (decide ((0 : Int) < ((s5.1.length : Nat) : Int))) then
 (let j6 : (List (Int)) × List (Int) -> Option _ := fun s7 =>
 (some (.inl (s7.1, s7.2)))
 (slices_IndexFunc__int_int'''''' s5.1 ((r2.1.take (Int.toNat r2.2)).drop (Int.toNat (0 : Int))) s5.1).bind fun r8 =>
 if (decide (r8 < (0 : Int))) then
 (some (.inr (.inr (([] : List (Int)), false))))
 else
 chk ((decide ((0 : Int) <= r8)) && (decide (r8 < ((s5.1.length : Nat) : Int)))) <|
 let v9 : List (Int) := ((s5.1.getD (Int.toNat r8) 0) :: ([] : List (Int)))
 let v10 : List (Int) := (s5.2 ++ v9)
 chk (decide (((v10.length : Nat) : Int) <= (17592186044416 : Int))) <|
 (slices_Delete__int_int s5.1 r8 (i64 (r8 + (1 : Int)))).bind fun r11 =>
 j6 (r11, v10))
 else
 some (.inr (.inl s5.2)))) (r1, ([] : List (Int)))).bind fun x12 =>
 sumE x12 (fun y13 =>
 j3 y13) (fun z14 =>
 some (z14.1, z14.2))
theorem Tc : (∀ a b : Bool, ((a && b) = true) = (a = true /\ b = true)) /\ (∀ a b : Bool, ((a || b) = true) = (a = true \/ b = true)) /\ (∀ b : Bool, ((!b) = true) = (b = false)) /\ (∀ {p : Prop} [Decidable p], (decide p = true) = p) /\
 (∀ {p : Prop} [Decidable p], (decide p = false) = ¬ p) /\ (∀ {A : Type} {l : List A} {i : Nat} {x : A}, (l.set i x).length = l.length) :=
 ⟨fun a b => by cases a <;> cases b <;> simp, fun a b => by cases a <;> cases b <;> simp, fun b => by cases b <;> simp, by simp, by simp, by simp⟩
abbrev Pr := Int × Int
abbrev P0 : Pr := (0, 0)
theorem ziV (a b c d : Int) : ∃ r, impl_sortPairs_1 a b c d = some r := by
 unfold impl_sortPairs_1
 simp only [ze0, bind_some, zjj]
 exact ⟨_, rfl⟩
theorem Ok.cmp1 {a b c d : Int} {B : Type} {f : Int -> Option B} {Q : B -> Prop} (k : ∀ r, Ok (f r) Q) : Ok ((impl_sortPairs_1 a b c d).bind f) Q := by
 obtain ⟨r, h⟩ := ziV a b c d
 exact Ok.be h (k r)
theorem Ok.cmpI {p : Prop} [Decidable p] {a b c d : Int} {B : Type} {f : Int -> Option B} {Q : B -> Prop} (k : ∀ r, Ok (f r) Q) : Ok ((if p then impl_sortPairs_1 a b c d else some 0).bind f) Q := by
 by_cases h : p
 · rw [if_pos h]; exact Ok.cmp1 k
 · rw [if_neg h]; exact k 0
theorem zjp {l : List Pr} {i j : Nat} (hi : i < l.length) (hj : j < l.length) : ((l.set i (l.getD j P0)).set j (l.getD i P0)).Perm l := by
 have e : ∀ k, (h : k < l.length) -> l.getD k P0 = l[k] := fun k h => by rw [List.getD_eq_getElem?_getD, List.getElem?_eq_getElem h]; rfl
 rw [e i hi, e j hj]
 exact List.set_set_perm hi hj
theorem za1 {l d : List Pr} {i j : Int} (h : l.Perm d) (hi : 0 <= i /\ i < l.length) (hj : 0 <= j /\ j < l.length) : ((l.set i.toNat (l.getD j.toNat P0)).set j.toNat (l.getD i.toNat P0)).Perm d :=
 (zjp (by omega) (by omega)).trans h
theorem zfP {d : List Pr} {a b : Int} (ha : 0 <= a) (hb : b <= d.length) (hn : (d.length : Int) <= 1000000000) (hab : a <= b) : Ok (slices_insertionSortCmpFunc_impl_Pair d a b) (fun r => r.Perm d) := by
 unfold slices_insertionSortCmpFunc_impl_Pair
 refine Ok.bind (P := fun r => r.Perm d) ?_ fun r hr => Ok.ret hr
 refine Ok.bind (P := fun r => r.Perm d) ?_ fun r hr => Ok.ret hr
 rw [zac (by omega) (by omega)]
 refine zam (fun s : List Pr × Int => s.1.Perm d /\ a + 1 <= s.2 /\ s.2 <= b + 1) (fun s => (b + 1 - s.2).toNat) ?_ ⟨List.Perm.refl _, by dsimp only; omega, by dsimp only; omega⟩
 rintro ⟨l, i⟩ ⟨hp, h1, h2⟩
 dsimp only at hp h1 h2 ⊢
 refine Ok.ited (fun hc => ?_) fun hc => Ok.ret hp
 refine Ok.bind (P := fun r => r.Perm d) ?_ fun r hr => ?_
 · refine Ok.bind (P := fun r => r.Perm d) ?_ fun r hr => Ok.ret hr
   refine Ok.bind (P := fun r => r.Perm d) ?_ fun r hr => Ok.ret hr
   refine zam (fun s : List Pr × Int => s.1.Perm d /\ a <= s.2 /\ s.2 <= i) (fun s => s.2.toNat) ?_ ⟨hp, by dsimp only; omega, by dsimp only; omega⟩
   rintro ⟨m, j⟩ ⟨hq, g1, g2⟩
   dsimp only at hq g1 g2 ⊢
   have hl := hq.length_eq
   simp (disch := omega) only [Cc, if_true, if_false]
   (repeat' (first | (with_reducible refine Ok.bc ?_ ?_; (· exact (by first | rfl | (simp only [Tc]; omega)))) | (with_reducible refine Ok.chk ?_ ?_; (· exact (by first | rfl | (simp only [Tc]; omega))))))
   refine Ok.cmpI fun r => ?_
   refine Ok.ite (fun hv => ?_) fun hv => Ok.ret hq
   have hj : a < j := by
    by_cases h : a < j
    · exact h
    · simp [h] at hv
   (repeat' (first | with_reducible refine Ok.bb ?_ | with_reducible refine Ok.bs ?_ | (with_reducible refine Ok.bc ?_ ?_; (· exact (by first | rfl | (simp only [Tc]; omega)))) | (with_reducible refine Ok.chk ?_ ?_; (· exact (by first | rfl | (simp only [Tc]; omega)))) | with_reducible refine Ok.cmpI fun r => ?_ | with_reducible refine Ok.cmp1 fun r => ?_ | with_reducible refine Ok.bid (fun hc => ?_) (fun hc => ?_) | with_reducible refine Ok.bi (fun hc => ?_) (fun hc => ?_) | with_reducible refine Ok.ited (fun hc => ?_) (fun hc => ?_) | with_reducible refine Ok.ite (fun hc => ?_) (fun hc => ?_)))
   refine Ok.ret ⟨⟨za1 hq (by omega) (by omega), by dsimp only; omega, by dsimp only; omega⟩, by dsimp only; omega⟩
 · rw [zac (by omega) (by omega)]
   exact Ok.ret ⟨⟨hr, by dsimp only; omega, by dsimp only; omega⟩, by dsimp only; omega⟩
theorem zhL {d : List Pr} {lo hi first : Int} (h0 : 0 <= lo) (hf : 0 <= first) (hh : first + hi <= d.length) (hlo : lo <= 1000000000) (hn : (d.length : Int) <= 1000000000) (hhi : 0 <= hi) : Ok (slices_siftDownCmpFunc_impl_Pair d lo hi first) (fun r => r.Perm d) := by
 unfold slices_siftDownCmpFunc_impl_Pair
 dsimp only
 refine Ok.bind (P := fun x : List Pr ⊕ List Pr => sumE x (fun y => y.Perm d) (fun y => y.Perm d)) ?_ fun x hx => ?_
 · refine zam (fun s : List Pr × Int => s.1.Perm d /\ 0 <= s.2 /\ s.2 <= 1000000000) (fun s => (hi - s.2).toNat) ?_ ⟨List.Perm.refl _, by dsimp only; omega, by dsimp only; omega⟩
   rintro ⟨l, root⟩ ⟨hp, h1, h2⟩
   dsimp only at hp h1 h2 ⊢
   have hl := hp.length_eq
   rw [zac (x := 2 * root) (by omega) (by omega), zac (x := 2 * root + 1) (by omega) (by omega), zac (x := 2 * root + 1 + 1) (by omega) (by omega)]
   refine Ok.ited (fun hc => Ok.ret hp) fun hc => ?_
   simp (disch := omega) only [Cc, if_true, if_false]
   (repeat' (first | (with_reducible refine Ok.bc ?_ ?_; (· exact (by first | rfl | (simp only [Tc]; omega)))) | (with_reducible refine Ok.chk ?_ ?_; (· exact (by first | rfl | (simp only [Tc]; omega))))))
   refine Ok.cmpI fun r => ?_
   refine Ok.bind (P := fun c : Int => (c = 2 * root + 1 \/ c = 2 * root + 1 + 1) /\ c < hi) ?_ fun c hcc => ?_
   · refine Ok.ite (fun hv => ?_) fun hv => Ok.ret ⟨.inl rfl, by omega⟩
     refine Ok.ret ⟨.inr rfl, ?_⟩
     by_cases h : 2 * root + 1 + 1 < hi
     · exact h
     · simp [h] at hv
   have hcr : root < c := by omega
   have hc0 : 0 <= c := by omega
   have hci := hcc.2
   simp (disch := omega) only [Cc, if_true, if_false]
   (repeat' (first | (with_reducible refine Ok.bc ?_ ?_; (· exact (by first | rfl | (simp only [Tc]; omega)))) | (with_reducible refine Ok.chk ?_ ?_; (· exact (by first | rfl | (simp only [Tc]; omega))))))
   refine Ok.cmp1 fun r2 => ?_
   refine Ok.ite (fun _ => Ok.ret hp) fun _ => ?_
   (repeat' (first | (with_reducible refine Ok.bc ?_ ?_; (· exact (by first | rfl | (simp only [Tc]; omega)))) | (with_reducible refine Ok.chk ?_ ?_; (· exact (by first | rfl | (simp only [Tc]; omega))))))
   refine Ok.ret ⟨⟨za1 hp (by omega) (by omega), by dsimp only; omega, by dsimp only; omega⟩, by dsimp only; omega⟩
 · rcases x with y | y
   · exact Ok.ret hx
   · exact Ok.ret hx
theorem zjh {d : List Pr} {a b : Int} (ha : 0 <= a) (hb : b <= d.length) (hn : (d.length : Int) <= 1000000000) (hab : a < b) : Ok (slices_heapSortCmpFunc_impl_Pair d a b) (fun r => r.Perm d) := by
 unfold slices_heapSortCmpFunc_impl_Pair
 have e0 : i64 (b - a) = b - a := zac (by omega) (by omega)
 have e1 : i64 (b - a - 1) = b - a - 1 := zac (by omega) (by omega)
 have e2 : Int.tdiv (b - a - 1) 2 = (b - a - 1) / 2 := Int.tdiv_eq_ediv_of_nonneg (by omega)
 rw [e0, e1, e2, zac (by omega) (by omega)]
 refine Ok.bind (P := fun r => r.Perm d) ?_ fun l hl => ?_
 · refine Ok.bind (P := fun r => r.Perm d) ?_ fun l hl => Ok.ret hl
   refine zam (fun s : List Pr × Int => s.1.Perm d /\ s.2 <= b - a) (fun s => (s.2 + 1).toNat) ?_ ⟨List.Perm.refl _, by dsimp only; omega⟩
   rintro ⟨l, i⟩ ⟨hp, h1⟩
   dsimp only at hp h1 ⊢
   have hl := hp.length_eq
   refine Ok.ited (fun hc => ?_) fun hc => Ok.ret hp
   refine Ok.bind (P := fun r => r.Perm d) (Ok.bind (zhL (by omega) ha (by omega) (by omega) (by omega) (by omega)) fun r hr => Ok.ret (hr.trans hp)) fun r hr => ?_
   rw [zac (by omega) (by omega)]
   exact Ok.ret ⟨⟨hr, by dsimp only; omega⟩, by dsimp only; omega⟩
 · refine Ok.bind (P := fun r => r.Perm d) ?_ fun r hr => Ok.ret hr
   refine Ok.bind (P := fun r => r.Perm d) ?_ fun r hr => Ok.ret hr
   refine zam (fun s : List Pr × Int => s.1.Perm d /\ s.2 < b - a) (fun s => (s.2 + 1).toNat) ?_ ⟨hl, by dsimp only; omega⟩
   rintro ⟨l, i⟩ ⟨hp, h1⟩
   dsimp only at hp h1 ⊢
   have hl := hp.length_eq
   refine Ok.ited (fun hc => ?_) fun hc => Ok.ret hp
   simp (disch := omega) only [Cc, if_true, if_false]
   refine Ok.bind (P := fun r => r.Perm d) ?_ fun r hr => ?_
   · (repeat' (first | (with_reducible refine Ok.bc ?_ ?_; (· exact (by first | rfl | (simp only [Tc]; omega)))) | (with_reducible refine Ok.chk ?_ ?_; (· exact (by first | rfl | (simp only [Tc]; omega))))))
     have hs := za1 (i := a) (j := a + i) hp (by omega) (by omega)
     have hsl := hs.length_eq
     refine Ok.bind (zhL (by omega) ha ?_ (by omega) ?_ (by omega)) fun r hr => Ok.ret (hr.trans hs)
     · simp only [List.length_set]; omega
     · simp only [List.length_set]; omega
   · exact Ok.ret ⟨⟨hr, by dsimp only; omega⟩, by dsimp only; omega⟩
theorem zjx {d : List Pr} {a b : Int} (ha : 0 <= a) (hb : b <= d.length) (hn : (d.length : Int) <= 1000000000) (hab : a <= b) : Ok (slices_reverseRangeCmpFunc_impl_Pair d a b) (fun r => r.Perm d) := by
 unfold slices_reverseRangeCmpFunc_impl_Pair
 rw [zac (by omega) (by omega)]
 refine Ok.bind (P := fun r => r.Perm d) ?_ fun r hr => Ok.ret hr
 refine Ok.bind (P := fun r => r.Perm d) ?_ fun r hr => Ok.ret hr
 refine zam (fun s : List Pr × Int × Int => s.1.Perm d /\ 0 <= s.2.1 /\ s.2.1 <= b + 1 /\ s.2.2 < b /\ -1 <= s.2.2) (fun s => (s.2.2 + 1).toNat) ?_ ⟨List.Perm.refl _, by dsimp only; omega, by dsimp only; omega, by dsimp only; omega, by dsimp only; omega⟩
 rintro ⟨l, i, j⟩ ⟨hp, h1, h2, h3, h4⟩
 dsimp only at hp h1 h2 h3 h4 ⊢
 have hl := hp.length_eq
 refine Ok.ited (fun hc => ?_) fun hc => Ok.ret hp
 simp (disch := omega) only [Cc, if_true, if_false]
 refine Ok.bind (P := fun r => r.Perm d) ?_ fun r hr => ?_
 · (repeat' (first | (with_reducible refine Ok.bc ?_ ?_; (· exact (by first | rfl | (simp only [Tc]; omega)))) | (with_reducible refine Ok.chk ?_ ?_; (· exact (by first | rfl | (simp only [Tc]; omega))))))
   exact Ok.ret (za1 hp (by omega) (by omega))
 · exact Ok.ret ⟨⟨hr, by dsimp only; omega, by dsimp only; omega, by dsimp only; omega, by dsimp only; omega⟩, by dsimp only; omega⟩
theorem zgy {d : List Pr} {a b s : Int} (ha : 0 <= a /\ a < d.length) (hb : 0 <= b /\ b < d.length) : Ok (slices_order2CmpFunc_impl_Pair d a b s) (fun r => (r.2.1 = a /\ r.2.2 = b) \/ (r.2.1 = b /\ r.2.2 = a)) := by
 unfold slices_order2CmpFunc_impl_Pair
 dsimp only
 (repeat' (first | (with_reducible refine Ok.bc ?_ ?_; (· exact (by first | rfl | (simp only [Tc]; omega)))) | (with_reducible refine Ok.chk ?_ ?_; (· exact (by first | rfl | (simp only [Tc]; omega))))))
 refine Ok.cmp1 fun r => ?_
 refine Ok.ite (fun _ => Ok.ret (.inr ⟨rfl, rfl⟩)) fun _ => Ok.ret (.inl ⟨rfl, rfl⟩)
theorem ziP {d : List Pr} {a b c s : Int} (ha : 0 <= a /\ a < d.length) (hb : 0 <= b /\ b < d.length) (hc : 0 <= c /\ c < d.length) : Ok (slices_medianCmpFunc_impl_Pair d a b c s) (fun r => r.2 = a \/ r.2 = b \/ r.2 = c) := by
 unfold slices_medianCmpFunc_impl_Pair
 refine Ok.bind (zgy ha hb) fun r0 h0 => ?_
 refine Ok.bind (zgy (by omega) hc) fun r1 h1 => ?_
 refine Ok.bind (zgy (by omega) (by omega)) fun r2 h2 => ?_
 exact Ok.ret (by dsimp only; omega)
theorem zgt {d : List Pr} {i s : Int} (hi : 1 <= i /\ i + 1 < d.length) (hn : (d.length : Int) <= 1000000000) : Ok (slices_medianAdjacentCmpFunc_impl_Pair d i s) (fun r => i - 1 <= r.2 /\ r.2 <= i + 1) := by
 unfold slices_medianAdjacentCmpFunc_impl_Pair
 rw [zac (x := i - 1) (by omega) (by omega), zac (x := i + 1) (by omega) (by omega)]
 refine Ok.bind (ziP (by omega) (by omega) (by omega)) fun r0 h0 => Ok.ret (by dsimp only; omega)
theorem zix {d : List Pr} {a b : Int} (ha : 0 <= a) (hb : b <= d.length) (hn : (d.length : Int) <= 1000000000) (hab : a < b) : Ok (slices_choosePivotCmpFunc_impl_Pair d a b) (fun r => a <= r.1 /\ r.1 < b) := by
 unfold slices_choosePivotCmpFunc_impl_Pair
 have e0 : i64 (b - a) = b - a := zac (by omega) (by omega)
 have e1 : Int.tdiv (b - a) 4 = (b - a) / 4 := Int.tdiv_eq_ediv_of_nonneg (by omega)
 have e2 : i64 ((b - a) / 4) = (b - a) / 4 := zac (by omega) (by omega)
 have e3 : i64 ((b - a) / 4 * 1) = (b - a) / 4 := by rw [zac (by omega) (by omega)]; omega
 have e4 : i64 ((b - a) / 4 * 2) = (b - a) / 4 * 2 := zac (by omega) (by omega)
 have e5 : i64 ((b - a) / 4 * 3) = (b - a) / 4 * 3 := zac (by omega) (by omega)
 have e6 : i64 (a + (b - a) / 4) = a + (b - a) / 4 := zac (by omega) (by omega)
 have e7 : i64 (a + (b - a) / 4 * 2) = a + (b - a) / 4 * 2 := zac (by omega) (by omega)
 have e8 : i64 (a + (b - a) / 4 * 3) = a + (b - a) / 4 * 3 := zac (by omega) (by omega)
 simp only [e0, e1, e2, e3, e4, e5, e6, e7, e8]
 refine Ok.bind (P := fun s : Int × Int => a <= s.2 /\ s.2 < b) ?_ fun s hs => ?_
 · refine Ok.ited (fun h8 => ?_) fun h8 => Ok.ret ⟨by dsimp only; omega, by dsimp only; omega⟩
   refine Ok.bind (P := fun s : Int × Int × Int × Int => (a <= s.2.1 /\ s.2.1 < b) /\ (a <= s.2.2.1 /\ s.2.2.1 < b) /\ a <= s.2.2.2 /\ s.2.2.2 < b) ?_ fun s hs => ?_
   · refine Ok.ited (fun h50 => ?_) fun h50 => Ok.ret ⟨by dsimp only; omega, by dsimp only; omega, by dsimp only; omega⟩
     refine Ok.bind (zgt (by omega) hn) fun r0 h0 => ?_
     refine Ok.bind (zgt (by omega) hn) fun r1 h1 => ?_
     refine Ok.bind (zgt (by omega) hn) fun r2 h2 => ?_
     exact Ok.ret ⟨by dsimp only; omega, by dsimp only; omega, by dsimp only; omega⟩
   · obtain ⟨⟨q1, q2⟩, ⟨q3, q4⟩, q5, q6⟩ := hs
     refine Ok.bind (ziP (by omega) (by omega) (by omega)) fun r hr => Ok.ret ⟨by dsimp only; omega, by dsimp only; omega⟩
 · refine Ok.ited (fun _ => Ok.ret hs) fun _ => Ok.ited (fun _ => Ok.ret hs) fun _ => Ok.ret hs
theorem zjg {x y : Int} (h0 : 0 <= y) (h1 : y < 18446744073709551616) : 0 <= ands .u64 x y /\ ands .u64 x y <= y := by
 unfold ands
 obtain ⟨Y, rfl⟩ : ∃ Y : Nat, y = Y := ⟨y.toNat, by omega⟩
 have e : (BitVec.ofInt (IntKind.bits .u64) (Y : Int)).toNat = Y := by
  rw [BitVec.ofInt_natCast, BitVec.toNat_ofNat]
  exact Nat.mod_eq_of_lt (by show Y < 2 ^ 64; omega)
 have h : (BitVec.ofInt (IntKind.bits .u64) x &&& BitVec.ofInt (IntKind.bits .u64) (Y : Int)).toNat <= Y := by
  rw [BitVec.toNat_and, e]; exact Nat.and_le_right
 have e2 : IntKind.wrap .u64 ((BitVec.ofInt (IntKind.bits .u64) x &&& BitVec.ofInt (IntKind.bits .u64) (Y : Int)).toNat : Int) = ((BitVec.ofInt (IntKind.bits .u64) x &&& BitVec.ofInt (IntKind.bits .u64) (Y : Int)).toNat : Int) := zhN (by omega) (by omega)
 rw [e2]; omega
noncomputable def pw (n : Nat) : Bool := match slices_nextPowerOfTwo (n : Int) with
 | some m => decide (1 <= m) && decide (m <= 2 * (n : Int))
 | none => false
theorem zjA : ∀ n, n < 4096 -> 8 <= n -> pw n = true := by
 have : (List.range 4096).all (fun n => Nat.blt n 8 || pw n) = true := by decide +kernel
 intro n h1 h2
 have := List.all_eq_true.1 this n (List.mem_range.2 h1)
 have h3 : Nat.blt n 8 = false := by
  cases h : Nat.blt n 8 with
  | false => rfl
  | true => have := Nat.le_of_ble_eq_true h; omega
 simpa [h3] using this
theorem zj4 {n : Int} (h0 : 8 <= n) (h1 : n < 4096) : Ok (slices_nextPowerOfTwo n) (fun m => 1 <= m /\ m <= 2 * n) := by
 have := zjA n.toNat (by omega) (by omega)
 unfold pw at this
 rw [Int.toNat_of_nonneg (by omega)] at this
 cases h : slices_nextPowerOfTwo n with
 | none => rw [h] at this; cases this
 | some m =>
   rw [h] at this
   simp only [Bool.and_eq_true, decide_eq_true_eq] at this
   exact ⟨m, rfl, this⟩
theorem ziA {d : List Pr} {a b : Int} (ha : 0 <= a) (hb : b <= d.length) (hn : (d.length : Int) < 4096) (hab : a <= b) : Ok (slices_breakPatternsCmpFunc_impl_Pair d a b) (fun r => r.Perm d) := by
 unfold slices_breakPatternsCmpFunc_impl_Pair
 have e0 : i64 (b - a) = b - a := zac (by omega) (by omega)
 have e1 : Int.tdiv (b - a) 4 = (b - a) / 4 := Int.tdiv_eq_ediv_of_nonneg (by omega)
 have e2 : i64 ((b - a) / 4) = (b - a) / 4 := zac (by omega) (by omega)
 have e4 : i64 ((b - a) / 4 * 2) = (b - a) / 4 * 2 := zac (by omega) (by omega)
 have e5 : i64 (a + (b - a) / 4 * 2) = a + (b - a) / 4 * 2 := zac (by omega) (by omega)
 have e6 : i64 (a + (b - a) / 4 * 2 - 1) = a + (b - a) / 4 * 2 - 1 := zac (by omega) (by omega)
 have e7 : i64 (a + (b - a) / 4 * 2 + 1) = a + (b - a) / 4 * 2 + 1 := zac (by omega) (by omega)
 simp only [e0, e1, e2, e4, e5, e6, e7]
 refine Ok.bind (P := fun r => r.Perm d) ?_ fun r hr => Ok.ret hr
 refine Ok.ited (fun h8 => ?_) fun _ => Ok.ret (List.Perm.refl _)
 refine Ok.bind (zj4 (by omega) (by omega)) fun m hm => ?_
 refine Ok.bind (P := fun r => r.Perm d) ?_ fun r hr => Ok.ret hr
 refine Ok.bind (P := fun r => r.Perm d) ?_ fun r hr => Ok.ret hr
 refine zam (fun s : List Pr × Int × Int => s.1.Perm d /\ a + (b - a) / 4 * 2 - 1 <= s.2.2 /\ s.2.2 <= a + (b - a) / 4 * 2 + 2) (fun s => (a + (b - a) / 4 * 2 + 2 - s.2.2).toNat) ?_ ⟨List.Perm.refl _, by dsimp only; omega, by dsimp only; omega⟩
 rintro ⟨l, x, i⟩ ⟨hp, h1, h2⟩
 dsimp only at hp h1 h2 ⊢
 have hl := hp.length_eq
 refine Ok.ited (fun hc => ?_) fun hc => Ok.ret hp
 refine Ok.bind (P := fun r : List Pr × Int => r.1.Perm d) ?_ fun r hr => ?_
 · refine Ok.bind (P := fun _ => True) ⟨_, rfl, trivial⟩ fun y _ => ?_
   have hu : u64 (m - 1) = m - 1 := zhN (by omega) (by omega)
   have hy := zjg (x := y) (y := m - 1) (by omega) (by omega)
   rw [hu]
   refine Ok.bind (P := fun o : Int => 0 <= o /\ o < b - a) ?_ fun o ho => ?_
   · rw [zac (x := ands .u64 y (m - 1)) (by omega) (by omega)]
     refine Ok.ited (fun hq => ?_) fun hq => Ok.ret (by omega)
     rw [zac (by omega) (by omega)]
     exact Ok.ret (by omega)
   · obtain ⟨o1, o2⟩ := ho
     simp (disch := omega) only [Cc, if_true, if_false]
     (repeat' (first | (with_reducible refine Ok.bc ?_ ?_; (· exact (by first | rfl | (simp only [Tc]; omega)))) | (with_reducible refine Ok.chk ?_ ?_; (· exact (by first | rfl | (simp only [Tc]; omega))))))
     exact Ok.ret (za1 hp (by omega) (by omega))
 · rw [zac (by omega) (by omega)]
   exact Ok.ret ⟨⟨hr, by dsimp only; omega, by dsimp only; omega⟩, by dsimp only; omega⟩
theorem zio {d : List Pr} {a b p : Int} (ha : 0 <= a) (hb : b <= d.length) (hn : (d.length : Int) <= 1000000000) (hap : a <= p) (hpb : p < b) : Ok (slices_partitionEqualCmpFunc_impl_Pair d a b p) (fun r => r.1.Perm d /\ a < r.2 /\ r.2 <= b) := by
 unfold slices_partitionEqualCmpFunc_impl_Pair
 dsimp only
 (repeat' (first | (with_reducible refine Ok.bc ?_ ?_; (· exact (by first | rfl | (simp only [Tc]; omega)))) | (with_reducible refine Ok.chk ?_ ?_; (· exact (by first | rfl | (simp only [Tc]; omega))))))
 have hs := za1 (i := a) (j := p) (List.Perm.refl d) (by omega) (by omega)
 generalize (d.set a.toNat (d.getD p.toNat P0)).set p.toNat (d.getD a.toNat P0) = l0 at hs
 have e1 : i64 (a + 1) = a + 1 := zac (by omega) (by omega)
 have e2 : i64 (b - 1) = b - 1 := zac (by omega) (by omega)
 rw [e1, e2]
 refine Ok.bind (P := fun r : List Pr × Int => r.1.Perm d /\ a < r.2 /\ r.2 <= b) ?_ fun r hr => Ok.ret hr
 refine Ok.bind (P := fun r : List Pr × Int => r.1.Perm d /\ a < r.2 /\ r.2 <= b) ?_ fun r hr => Ok.ret hr
 refine zam (fun s : List Pr × Int × Int => s.1.Perm d /\ a + 1 <= s.2.1 /\ s.2.1 <= b /\ a <= s.2.2 /\ s.2.2 <= b - 1) (fun s => (s.2.2 + 2 - s.2.1).toNat) ?_ ⟨hs, by dsimp only; omega, by dsimp only; omega, by dsimp only; omega, by dsimp only; omega⟩
 rintro ⟨l, i, j⟩ ⟨hp, h1, h2, h3, h4⟩
 dsimp only at hp h1 h2 h3 h4 ⊢
 have hl := hp.length_eq
 refine Ok.bind (P := fun k : Int => i <= k /\ k <= b) ?_ fun k hk => ?_
 · refine Ok.bind (P := fun k : Int => i <= k /\ k <= b) ?_ fun k hk => Ok.ret hk
   refine zam (fun k : Int => i <= k /\ k <= b) (fun k => (b - k).toNat) ?_ ⟨by omega, by omega⟩
   rintro k ⟨g1, g2⟩
   simp (disch := omega) only [Cc, if_true, if_false]
   (repeat' (first | (with_reducible refine Ok.bc ?_ ?_; (· exact (by first | rfl | (simp only [Tc]; omega)))) | (with_reducible refine Ok.chk ?_ ?_; (· exact (by first | rfl | (simp only [Tc]; omega))))))
   refine Ok.cmpI fun r => ?_
   refine Ok.ite (fun hv => ?_) fun hv => Ok.ret ⟨g1, g2⟩
   have hkj : k <= j := by
    by_cases h : k <= j
    · exact h
    · simp [h] at hv
   refine Ok.bs ?_
   exact Ok.ret ⟨⟨by omega, by omega⟩, by omega⟩
 obtain ⟨k1, k2⟩ := hk
 refine Ok.bind (P := fun q : Int => q <= j /\ a <= q) ?_ fun q hq => ?_
 · refine Ok.bind (P := fun q : Int => q <= j /\ a <= q) ?_ fun q hq => Ok.ret hq
   refine zam (fun q : Int => q <= j /\ a <= q) (fun q => (q - a).toNat) ?_ ⟨by omega, by omega⟩
   rintro q ⟨g1, g2⟩
   simp (disch := omega) only [Cc, if_true, if_false]
   (repeat' (first | (with_reducible refine Ok.bc ?_ ?_; (· exact (by first | rfl | (simp only [Tc]; omega)))) | (with_reducible refine Ok.chk ?_ ?_; (· exact (by first | rfl | (simp only [Tc]; omega))))))
   refine Ok.cmpI fun r => ?_
   refine Ok.ite (fun hv => ?_) fun hv => Ok.ret ⟨g1, g2⟩
   have hkj : k <= q := by
    by_cases h : k <= q
    · exact h
    · simp [h] at hv
   refine Ok.bs ?_
   exact Ok.ret ⟨⟨by omega, by omega⟩, by omega⟩
 obtain ⟨q1, q2⟩ := hq
 refine Ok.ited (fun _ => Ok.ret ⟨hp, by dsimp only; omega, by dsimp only; omega⟩) fun hc => ?_
 simp (disch := omega) only [Cc, if_true, if_false]
 (repeat' (first | (with_reducible refine Ok.bc ?_ ?_; (· exact (by first | rfl | (simp only [Tc]; omega)))) | (with_reducible refine Ok.chk ?_ ?_; (· exact (by first | rfl | (simp only [Tc]; omega))))))
 exact Ok.ret ⟨⟨za1 hp (by omega) (by omega), by dsimp only; omega, by dsimp only; omega, by dsimp only; omega, by dsimp only; omega⟩, by dsimp only; omega⟩
theorem zjk {i j b : Int} {f : Int -> Option (Int ⊕ Int)} (hi : i <= b) (hjb : j < b) (hf : ∀ k, i <= k -> k <= b -> Ok (f k) (fun o => match o with | .inl k' => k <= j /\ k' = k + 1 | .inr x => x = k)) : Ok (loopM f i) (fun k => i <= k /\ k <= b) := by
 refine zam (fun k : Int => i <= k /\ k <= b) (fun k => (b - k).toNat) ?_ ⟨by omega, by omega⟩
 rintro k ⟨g1, g2⟩
 refine (hf k g1 g2).mono fun o ho => ?_
 cases o with
 | inl k' => dsimp only at ho ⊢; omega
 | inr x => dsimp only at ho ⊢; omega
theorem zhM {a k j : Int} {f : Int -> Option (Int ⊕ Int)} (hk : a < k) (hj : a <= j) (hf : ∀ q, a <= q -> q <= j -> Ok (f q) (fun o => match o with | .inl q' => k <= q /\ q' = q - 1 | .inr x => x = q)) : Ok (loopM f j) (fun q => q <= j /\ a <= q) := by
 refine zam (fun q : Int => q <= j /\ a <= q) (fun q => (q - a).toNat) ?_ ⟨by omega, by omega⟩
 rintro q ⟨g1, g2⟩
 refine (hf q g2 g1).mono fun o ho => ?_
 cases o with
 | inl q' => dsimp only at ho ⊢; omega
 | inr x => dsimp only at ho ⊢; omega
theorem zf6 {p : Prop} [Decidable p] {x : Bool} (h : (if decide p = true then x else false) = true) : p := by
 by_cases hp : p
 · exact hp
 · simp [hp] at h
theorem ziX {d : List Pr} {a b p : Int} (ha : 0 <= a) (hb : b <= d.length) (hn : (d.length : Int) <= 1000000000) (hap : a <= p) (hpb : p < b) : Ok (slices_partitionCmpFunc_impl_Pair d a b p) (fun r => r.1.Perm d /\ a <= r.2.1 /\ r.2.1 < b) := by
 unfold slices_partitionCmpFunc_impl_Pair
 dsimp only
 (repeat' (first | (with_reducible refine Ok.bc ?_ ?_; (· exact (by first | rfl | (simp only [Tc]; omega)))) | (with_reducible refine Ok.chk ?_ ?_; (· exact (by first | rfl | (simp only [Tc]; omega))))))
 have hs := za1 (i := a) (j := p) (List.Perm.refl d) (by omega) (by omega)
 generalize (d.set a.toNat (d.getD p.toNat P0)).set p.toNat (d.getD a.toNat P0) = l0 at hs
 have hl0 := hs.length_eq
 have e1 : i64 (a + 1) = a + 1 := zac (by omega) (by omega)
 have e2 : i64 (b - 1) = b - 1 := zac (by omega) (by omega)
 rw [e1, e2]
 refine Ok.bind (P := fun k : Int => a + 1 <= k /\ k <= b) ?_ fun k hk => ?_
 · refine Ok.bind (zjk (j := b - 1) (by omega) (by omega) fun k g1 g2 => ?_) fun k hk => Ok.ret hk
   simp (disch := omega) only [Cc, if_true, if_false]
   (repeat' (first | (with_reducible refine Ok.bc ?_ ?_; (· exact (by first | rfl | (simp only [Tc]; omega)))) | (with_reducible refine Ok.chk ?_ ?_; (· exact (by first | rfl | (simp only [Tc]; omega))))))
   refine Ok.cmpI fun r => ?_
   refine Ok.ite (fun hv => ?_) fun hv => Ok.ret rfl
   exact Ok.bs (Ok.ret ⟨zf6 hv, rfl⟩)
 obtain ⟨k1, k2⟩ := hk
 refine Ok.bind (P := fun q : Int => q <= b - 1 /\ a <= q) ?_ fun q hq => ?_
 · refine Ok.bind (zhM (k := k) (by omega) (by omega) fun q g1 g2 => ?_) fun k hk => Ok.ret hk
   simp (disch := omega) only [Cc, if_true, if_false]
   (repeat' (first | (with_reducible refine Ok.bc ?_ ?_; (· exact (by first | rfl | (simp only [Tc]; omega)))) | (with_reducible refine Ok.chk ?_ ?_; (· exact (by first | rfl | (simp only [Tc]; omega))))))
   refine Ok.cmpI fun r => ?_
   refine Ok.ite (fun hv => ?_) fun hv => Ok.ret rfl
   exact Ok.bs (Ok.ret ⟨zf6 hv, rfl⟩)
 obtain ⟨q1, q2⟩ := hq
 refine Ok.ited (fun hc => ?_) fun hc => ?_
 · (repeat' (first | (with_reducible refine Ok.bc ?_ ?_; (· exact (by first | rfl | (simp only [Tc]; omega)))) | (with_reducible refine Ok.chk ?_ ?_; (· exact (by first | rfl | (simp only [Tc]; omega))))))
   exact Ok.ret ⟨za1 hs (by omega) (by omega), by dsimp only; omega, by dsimp only; omega⟩
 (repeat' (first | (with_reducible refine Ok.bc ?_ ?_; (· exact (by first | rfl | (simp only [Tc]; omega)))) | (with_reducible refine Ok.chk ?_ ?_; (· exact (by first | rfl | (simp only [Tc]; omega))))))
 have hs1 := za1 (i := k) (j := q) hs (by omega) (by omega)
 generalize (l0.set k.toNat (l0.getD q.toNat P0)).set q.toNat (l0.getD k.toNat P0) = l1 at hs1
 rw [zac (x := k + 1) (by omega) (by omega), zac (x := q - 1) (by omega) (by omega)]
 refine Ok.bind (P := fun r : List Pr × Int => r.1.Perm d /\ a <= r.2 /\ r.2 < b) ?_ fun s hs2 => ?_
 · refine Ok.bind (P := fun r : List Pr × Int => r.1.Perm d /\ a <= r.2 /\ r.2 < b) ?_ fun r hr => Ok.ret hr
   refine zam (fun s : List Pr × Int × Int => s.1.Perm d /\ a + 1 <= s.2.1 /\ s.2.1 <= b /\ a <= s.2.2 /\ s.2.2 <= b - 1) (fun s => (s.2.2 + 2 - s.2.1).toNat) ?_ ⟨hs1, by dsimp only; omega, by dsimp only; omega, by dsimp only; omega, by dsimp only; omega⟩
   rintro ⟨l, i, j⟩ ⟨hp, h1, h2, h3, h4⟩
   dsimp only at hp h1 h2 h3 h4 ⊢
   have hl := hp.length_eq
   refine Ok.bind (P := fun k : Int => i <= k /\ k <= b) ?_ fun k hk => ?_
   · refine Ok.bind (zjk (j := j) (by omega) (by omega) fun k g1 g2 => ?_) fun k hk => Ok.ret hk
     simp (disch := omega) only [Cc, if_true, if_false]
     (repeat' (first | (with_reducible refine Ok.bc ?_ ?_; (· exact (by first | rfl | (simp only [Tc]; omega)))) | (with_reducible refine Ok.chk ?_ ?_; (· exact (by first | rfl | (simp only [Tc]; omega))))))
     refine Ok.cmpI fun r => ?_
     refine Ok.ite (fun hv => ?_) fun hv => Ok.ret rfl
     exact Ok.bs (Ok.ret ⟨zf6 hv, rfl⟩)
   obtain ⟨k1, k2⟩ := hk
   refine Ok.bind (P := fun q : Int => q <= j /\ a <= q) ?_ fun q hq => ?_
   · refine Ok.bind (zhM (k := k) (by omega) (by omega) fun q g1 g2 => ?_) fun k hk => Ok.ret hk
     simp (disch := omega) only [Cc, if_true, if_false]
     (repeat' (first | (with_reducible refine Ok.bc ?_ ?_; (· exact (by first | rfl | (simp only [Tc]; omega)))) | (with_reducible refine Ok.chk ?_ ?_; (· exact (by first | rfl | (simp only [Tc]; omega))))))
     refine Ok.cmpI fun r => ?_
     refine Ok.ite (fun hv => ?_) fun hv => Ok.ret rfl
     exact Ok.bs (Ok.ret ⟨zf6 hv, rfl⟩)
   obtain ⟨q1, q2⟩ := hq
   refine Ok.ited (fun _ => Ok.ret ⟨hp, by dsimp only; omega, by dsimp only; omega⟩) fun hc => ?_
   simp (disch := omega) only [Cc, if_true, if_false]
   (repeat' (first | (with_reducible refine Ok.bc ?_ ?_; (· exact (by first | rfl | (simp only [Tc]; omega)))) | (with_reducible refine Ok.chk ?_ ?_; (· exact (by first | rfl | (simp only [Tc]; omega))))))
   exact Ok.ret ⟨⟨za1 hp (by omega) (by omega), by dsimp only; omega, by dsimp only; omega, by dsimp only; omega, by dsimp only; omega⟩, by dsimp only; omega⟩
 · obtain ⟨m, t⟩ := s
   obtain ⟨hp, t1, t2⟩ := hs2
   dsimp only at hp t1 t2 ⊢
   have hl := hp.length_eq
   (repeat' (first | (with_reducible refine Ok.bc ?_ ?_; (· exact (by first | rfl | (simp only [Tc]; omega)))) | (with_reducible refine Ok.chk ?_ ?_; (· exact (by first | rfl | (simp only [Tc]; omega))))))
   exact Ok.ret ⟨za1 hp (by omega) (by omega), by dsimp only; omega, by dsimp only; omega⟩
theorem ziW {d : List Pr} {a b : Int} (ha : 0 <= a) (hb : b <= d.length) (hn : (d.length : Int) <= 1000000000) (hab : a < b) : Ok (slices_partialInsertionSortCmpFunc_impl_Pair d a b) (fun r => r.1.Perm d) := by
 unfold slices_partialInsertionSortCmpFunc_impl_Pair
 dsimp only
 rw [zac (x := a + 1) (by omega) (by omega)]
 refine Ok.bind (P := fun x : List Pr ⊕ (List Pr × Bool) => sumE x (fun y => y.Perm d) (fun y => y.1.Perm d)) ?_ fun x hx => ?_
 · refine zam (fun s : List Pr × Int × Int => s.1.Perm d /\ a + 1 <= s.2.1 /\ s.2.1 <= b /\ 0 <= s.2.2) (fun s => (5 - s.2.2).toNat) ?_ ⟨List.Perm.refl _, by dsimp only; omega, by dsimp only; omega, by dsimp only; omega⟩
   rintro ⟨l, i, n⟩ ⟨hp, h1, h2, h3⟩
   dsimp only at hp h1 h2 h3 ⊢
   have hl := hp.length_eq
   refine Ok.ited (fun hn5 => ?_) fun _ => Ok.ret hp
   refine Ok.bind (P := fun k : Int => i <= k /\ k <= b) ?_ fun k hk => ?_
   · refine Ok.bind (zjk (j := b - 1) (by omega) (by omega) fun k g1 g2 => ?_) fun k hk => Ok.ret hk
     simp (disch := omega) only [Cc, if_true, if_false]
     (repeat' (first | (with_reducible refine Ok.bc ?_ ?_; (· exact (by first | rfl | (simp only [Tc]; omega)))) | (with_reducible refine Ok.chk ?_ ?_; (· exact (by first | rfl | (simp only [Tc]; omega))))))
     refine Ok.cmpI fun r => ?_
     refine Ok.ite (fun hv => ?_) fun hv => Ok.ret rfl
     have := zf6 hv
     exact Ok.bs (Ok.ret ⟨by omega, rfl⟩)
   obtain ⟨k1, k2⟩ := hk
   refine Ok.ited (fun _ => Ok.ret hp) fun hkb => ?_
   rw [zac (x := b - a) (by omega) (by omega), zac (x := k - 1) (by omega) (by omega), zac (x := k - a) (by omega) (by omega), zac (x := b - k) (by omega) (by omega), zac (x := k + 1) (by omega) (by omega)]
   refine Ok.ited (fun _ => Ok.ret hp) fun h50 => ?_
   (repeat' (first | (with_reducible refine Ok.bc ?_ ?_; (· exact (by first | rfl | (simp only [Tc]; omega)))) | (with_reducible refine Ok.chk ?_ ?_; (· exact (by first | rfl | (simp only [Tc]; omega))))))
   have hs := za1 (i := k) (j := k - 1) hp (by omega) (by omega)
   generalize (l.set k.toNat (l.getD (k - 1).toNat P0)).set (k - 1).toNat (l.getD k.toNat P0) = l1 at hs
   refine Ok.bind (P := fun r => r.Perm d) ?_ fun l2 hl2 => ?_
   · refine Ok.ited (fun _ => ?_) fun _ => Ok.ret hs
     refine Ok.bind (P := fun r => r.Perm d) ?_ fun r hr => Ok.ret hr
     refine Ok.bind (P := fun r => r.Perm d) ?_ fun r hr => Ok.ret hr
     refine zam (fun s : List Pr × Int => s.1.Perm d /\ 0 <= s.2 /\ s.2 < b) (fun s => s.2.toNat) ?_ ⟨hs, by dsimp only; omega, by dsimp only; omega⟩
     rintro ⟨m, j⟩ ⟨hq, g1, g2⟩
     dsimp only at hq g1 g2 ⊢
     have hlm := hq.length_eq
     refine Ok.ited (fun hj => ?_) fun _ => Ok.ret hq
     simp (disch := omega) only [Cc, if_true, if_false]
     (repeat' (first | (with_reducible refine Ok.bc ?_ ?_; (· exact (by first | rfl | (simp only [Tc]; omega)))) | (with_reducible refine Ok.chk ?_ ?_; (· exact (by first | rfl | (simp only [Tc]; omega))))))
     refine Ok.cmp1 fun r => ?_
     refine Ok.ite (fun _ => Ok.ret hq) fun _ => ?_
     (repeat' (first | (with_reducible refine Ok.bc ?_ ?_; (· exact (by first | rfl | (simp only [Tc]; omega)))) | (with_reducible refine Ok.chk ?_ ?_; (· exact (by first | rfl | (simp only [Tc]; omega))))))
     exact Ok.ret ⟨⟨za1 hq (by omega) (by omega), by dsimp only; omega, by dsimp only; omega⟩, by dsimp only; omega⟩
   refine Ok.bind (P := fun r => r.Perm d) ?_ fun l3 hl3 => ?_
   · refine Ok.ited (fun _ => ?_) fun _ => Ok.ret hl2
     refine Ok.bind (P := fun r => r.Perm d) ?_ fun r hr => Ok.ret hr
     refine Ok.bind (P := fun r => r.Perm d) ?_ fun r hr => Ok.ret hr
     refine zam (fun s : List Pr × Int => s.1.Perm d /\ a + 1 <= s.2 /\ s.2 <= b + 1) (fun s => (b + 1 - s.2).toNat) ?_ ⟨hl2, by dsimp only; omega, by dsimp only; omega⟩
     rintro ⟨m, j⟩ ⟨hq, g1, g2⟩
     dsimp only at hq g1 g2 ⊢
     have hlm := hq.length_eq
     refine Ok.ited (fun hj => ?_) fun _ => Ok.ret hq
     simp (disch := omega) only [Cc, if_true, if_false]
     (repeat' (first | (with_reducible refine Ok.bc ?_ ?_; (· exact (by first | rfl | (simp only [Tc]; omega)))) | (with_reducible refine Ok.chk ?_ ?_; (· exact (by first | rfl | (simp only [Tc]; omega))))))
     refine Ok.cmp1 fun r => ?_
     refine Ok.ite (fun _ => Ok.ret hq) fun _ => ?_
     (repeat' (first | (with_reducible refine Ok.bc ?_ ?_; (· exact (by first | rfl | (simp only [Tc]; omega)))) | (with_reducible refine Ok.chk ?_ ?_; (· exact (by first | rfl | (simp only [Tc]; omega))))))
     exact Ok.ret ⟨⟨za1 hq (by omega) (by omega), by dsimp only; omega, by dsimp only; omega⟩, by dsimp only; omega⟩
   rw [zac (by omega) (by omega)]
   exact Ok.ret ⟨⟨hl3, by dsimp only; omega, by dsimp only; omega, by dsimp only; omega⟩, by dsimp only; omega⟩
 · rcases x with y | y
   · exact Ok.ret hx
   · exact Ok.ret hx
theorem lv1 : slices_pdqsortCmpFunc_impl_Pair' = pdqF slices_pdqsortCmpFunc_impl_Pair := rfl
theorem lv2 : slices_pdqsortCmpFunc_impl_Pair'' = pdqF slices_pdqsortCmpFunc_impl_Pair' := rfl
theorem lv3 : slices_pdqsortCmpFunc_impl_Pair''' = pdqF slices_pdqsortCmpFunc_impl_Pair'' := rfl
theorem lv4 : slices_pdqsortCmpFunc_impl_Pair'''' = pdqF slices_pdqsortCmpFunc_impl_Pair''' := rfl
theorem lv5 : slices_pdqsortCmpFunc_impl_Pair''''' = pdqF slices_pdqsortCmpFunc_impl_Pair'''' := rfl
theorem lv6 : slices_pdqsortCmpFunc_impl_Pair'''''' = pdqF slices_pdqsortCmpFunc_impl_Pair''''' := rfl
theorem lv7 : slices_pdqsortCmpFunc_impl_Pair''''''' = pdqF slices_pdqsortCmpFunc_impl_Pair'''''' := rfl
theorem lv8 : slices_pdqsortCmpFunc_impl_Pair'''''''' = pdqF slices_pdqsortCmpFunc_impl_Pair''''''' := rfl
theorem lv9 : slices_pdqsortCmpFunc_impl_Pair''''''''' = pdqF slices_pdqsortCmpFunc_impl_Pair'''''''' := rfl
def Perms (f : List Pr -> Int -> Int -> Int -> Option (List Pr)) (N : Int) : Prop := ∀ (d : List Pr) (a b lim : Int), 0 <= a -> a <= b -> b <= d.length -> (d.length : Int) < 4096 -> b - a <= N -> 0 <= lim -> lim <= 100 -> Ok (f d a b lim) (fun r => r.Perm d)
theorem zjE : Perms slices_pdqsortCmpFunc_impl_Pair 12 := by
 intro d a b lim ha hab hb hn hN h0 h1
 unfold slices_pdqsortCmpFunc_impl_Pair
 refine Ok.bind (P := fun r => r.Perm d) ?_ fun r hr => Ok.ret hr
 refine zam (fun s : List Pr × Int × Int => s = (d, a, lim)) (fun s => 0) ?_ rfl
 rintro s rfl
 dsimp only
 have e : i64 (b - a) = b - a := zac (by omega) (by omega)
 rw [e, if_pos (zbz hN)]
 exact Ok.bind (zfP ha hb (by omega) hab) fun r hr => Ok.ret hr
end Sh
