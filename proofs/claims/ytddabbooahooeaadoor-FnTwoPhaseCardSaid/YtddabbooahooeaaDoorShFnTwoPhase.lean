/- Sh: typed functions of Go functions and what is shown of them: the part that this statement needs. -/
import Derived.Test.YtddabbooahooeaaDoorShBase
import Derived.IntWalk
set_option linter.unusedVariables false
set_option linter.unusedSimpArgs false
namespace Sh
open Go
theorem zac {x : Int} (h1 : -9223372036854775808 <= x) (h2 : x <= 9223372036854775807) : i64 x = x := IntWalk.i64_in x ⟨h1, h2⟩
theorem zhC {x : Int} (h1 : 0 <= x) (h2 : x <= 18446744073709551615) : u64 x = x := IntWalk.u64_in x ⟨h1, h2⟩
def Ok {A : Type} (m : Option A) (Q : A -> Prop) : Prop := ∃ a, m = some a /\ Q a
theorem Ok.ret {A : Type} {a : A} {Q : A -> Prop} (h : Q a) : Ok (some a) Q := ⟨a, rfl, h⟩
theorem Ok.bind {A B : Type} {m : Option A} {f : A -> Option B} {P : A -> Prop} {Q : B -> Prop} (h : Ok m P) (k : ∀ a, P a -> Ok (f a) Q) : Ok (m.bind f) Q := by
 obtain ⟨a, rfl, ha⟩ := h
 exact k a ha
theorem Ok.mono {A : Type} {m : Option A} {P Q : A -> Prop} (h : Ok m P) (k : ∀ a, P a -> Q a) : Ok m Q := by
 obtain ⟨a, h1, h2⟩ := h
 exact ⟨a, h1, k a h2⟩
theorem Ok.chk {A : Type} {c : Bool} {m : Option A} {Q : A -> Prop} (h : c = true) (k : Ok m Q) : Ok (chk c m) Q := by rw [zbx h]; exact k
theorem Ok.ite {A : Type} {c : Prop} [Decidable c] {a b : Option A} {Q : A -> Prop} (h : c -> Ok a Q) (k : ¬ c -> Ok b Q) : Ok (if c then a else b) Q := by
 split
 · exact h ‹_›
 · exact k ‹_›
theorem Ok.of_eq {A : Type} {m : Option A} {a : A} (h : Ok m (· = a)) : m = some a := by obtain ⟨b, h1, rfl⟩ := h; exact h1
theorem zhl (c x : Bool) : (if c then true else x) = (c || x) := by cases c <;> rfl
theorem zi9 (c x : Bool) : (if c then x else false) = (c && x) := by cases c <;> rfl
theorem ziQ {R : Type} (a b : Bool) (k : Option R) : chk (a && b) k = chk a (chk b k) := by cases a <;> rfl
theorem ziN {R : Type} {p : Prop} [Decidable p] (h : p) (k : Option R) : chk (decide p) k = k := zbx (decide_eq_true h) k
theorem zbr {p : Prop} [Decidable p] (h : p) : decide p = true := decide_eq_true h
theorem zj2 {p : Prop} [Decidable p] (h : ¬ p) : decide p = false := decide_eq_false h
theorem bind_some {A B : Type} (a : A) (f : A -> Option B) : (Option.some a).bind f = f a := rfl
theorem Cc : ((∀ h : Decidable True, @decide True h = true) /\ (∀ h : Decidable False, @decide False h = false)) /\ (∀ {x : Int}, -9223372036854775808 <= x -> x <= 9223372036854775807 -> i64 x = x) /\ (∀ {R : Type} (a b : Bool) (k : Option R), chk (a && b) k = chk a (chk b k)) /\
 (∀ {R : Type} {p : Prop} [Decidable p], p -> ∀ (k : Option R), chk (decide p) k = k) /\ (∀ {R : Type} (k : Option R), chk true k = k) /\ (∀ {p : Prop} [Decidable p], p -> decide p = true) /\ (∀ {p : Prop} [Decidable p], ¬ p -> decide p = false) /\
 ((false = true) = False) /\ ((!true) = false) /\ ((!false) = true) /\ (∀ b : Bool, (b && b) = b) /\ (∀ b : Bool, (b && false) = false) /\ (∀ b : Bool, (false && b) = false) /\ (∀ b : Bool, (b && true) = b) /\ (∀ b : Bool, (true && b) = b) /\
 (∀ b : Bool, (b || false) = b) /\ (∀ b : Bool, (false || b) = b) /\ (∀ b : Bool, (b || true) = true) /\ (∀ b : Bool, (true || b) = true) /\ (∀ {A B : Type} (a : A) (f : A -> Option B), (Option.some a).bind f = f a) /\ (∀ n : Nat, ((n : Int)).toNat = n) :=
 ⟨⟨decide_true, decide_false⟩, fun h k => zac h k, ziQ, fun h k => ziN h k, zaj, fun h => zbr h, fun h => zj2 h, Bool.false_eq_true, rfl, rfl, Bool.and_self, Bool.and_false, Bool.false_and, Bool.and_true, Bool.true_and, Bool.or_false, Bool.false_or, Bool.or_true, Bool.true_or, bind_some, Int.toNat_natCast⟩
theorem zag {A B : Type} {m : Option A} {a : A} {g : A -> Option B} {b : Option B} (h : m = some a) (k : g a = b) : m.bind g = b := by rw [h]; exact k
theorem zal {σ X : Type} {f : σ -> Option (σ ⊕ X)} {Q : X -> Prop} (Inv : σ -> Prop) (μ : σ -> Nat)
 (step : ∀ s, Inv s -> Ok (f s) (fun o => match o with | .inl s' => Inv s' /\ μ s' < μ s | .inr x => Q x)) {s : σ} (hs : Inv s) : Ok (loopM f s) Q := by
 have key : ∀ n s, μ s = n -> Inv s -> Ok (loopM f s) Q := by
  intro n
  induction n using Nat.strongRecOn with
  | _ n ih =>
    intro s hn hs
    obtain ⟨o, h1, h2⟩ := step s hs
    rw [zaz, h1]
    cases o with
    | inl s' => exact ih (μ s') (by have := h2.2; omega) s' rfl h2.1
    | inr x => exact ⟨x, rfl, h2⟩
 exact key _ s rfl hs
theorem zgV {σ X : Type} {f : σ -> Option (σ ⊕ X)} (st : Nat -> σ) (n : Nat) (x : X) (hs : ∀ k, k < n -> f (st k) = some (.inl (st (k + 1)))) (he : f (st n) = some (.inr x)) : loopM f (st 0) = some x := by
 have key : ∀ m k, k + m = n -> loopM f (st k) = some x := by
  intro m
  induction m with
  | zero => intro k hk; rw [zaz, show k = n by omega, he]
  | succ m ih => intro k hk; rw [zaz, hs k (by omega)]; exact ih (k + 1) (by omega)
 exact key n 0 (by omega)
theorem zeC {σ X : Type} {f : σ -> Option (σ ⊕ X)} (st : Nat -> σ) (n : Nat) (out : Nat -> Option X) (xe : X)
 (hs : ∀ k, k < n -> f (st k) = some (match out k with | none => .inl (st (k + 1)) | some x => .inr x)) (he : f (st n) = some (.inr xe)) :
 loopM f (st 0) = some (((List.range n).findSome? out).getD xe) := by
 have key : ∀ m k, k + m = n -> loopM f (st k) = some (((List.range' k m).findSome? out).getD xe) := by
  intro m
  induction m with
  | zero => intro k hk; rw [zaz, show k = n by omega, he]; rfl
  | succ m ih =>
    intro k hk
    rw [zaz, hs k (by omega), List.range'_succ, List.findSome?_cons]
    cases h : out k with
    | none => exact ih (k + 1) (by omega)
    | some x => rfl
 have := key n 0 (by omega)
 rwa [List.range_eq_range']
theorem zdx {X : Type} (p : Nat -> Bool) (x xe : X) : ∀ l : List Nat, ((l.findSome? fun k => if p k then some x else none).getD xe) = if l.any p then x else xe
 | [] => rfl
 | a :: l => by
   rw [List.findSome?_cons, List.any_cons]
   cases h : p a with
   | true => simp
   | false => simpa using zdx p x xe l
theorem zgG {σ X : Type} {f : σ -> Option (σ ⊕ X)} (st : Nat -> σ) (n : Nat) (p : Nat -> Bool) (x xe : X)
 (hs : ∀ k, k < n -> f (st k) = some (if p k then .inr x else .inl (st (k + 1)))) (he : f (st n) = some (.inr xe)) :
 loopM f (st 0) = some (if (List.range n).any p then x else xe) := by
 rw [zeC st n (fun k => if p k then some x else none) xe (fun k hk => by rw [hs k hk]; cases p k <;> rfl) he, zdx]
theorem zbG {σ X : Type} {f : σ -> Option (σ ⊕ X)} {s0 : σ} (st : Nat -> σ) (n : Nat) (x : X) (h0 : s0 = st 0) (hs : ∀ k, k < n -> f (st k) = some (.inl (st (k + 1)))) (he : f (st n) = some (.inr x)) : loopM f s0 = some x := by
 rw [h0]; exact zgV st n x hs he
theorem zaV {σ X : Type} {f : σ -> Option (σ ⊕ X)} {s0 : σ} (st : Nat -> σ) (n : Nat) (p : Nat -> Bool) (x xe : X) (h0 : s0 = st 0)
 (hs : ∀ k, k < n -> f (st k) = some (if p k then .inr x else .inl (st (k + 1)))) (he : f (st n) = some (.inr xe)) :
 loopM f s0 = some (if (List.range n).any p then x else xe) := by
 rw [h0]; exact zgG st n p x xe hs he
theorem zak {n : Nat} {p : Nat -> Bool} : (List.range n).any p = false ↔ ∀ k, k < n -> p k = false := by simp
theorem zcW {X : Type} (p : Nat -> Bool) (g : Nat -> X) (xe : X) : ∀ l : List Nat, ((l.findSome? fun k => if p k then some (g k) else none).getD xe) = match l.find? p with | some k => g k | none => xe
 | [] => rfl
 | a :: l => by
   rw [List.findSome?_cons, List.find?_cons]
   cases h : p a with
   | true => simp
   | false => simpa using zcW p g xe l
theorem zhq {σ X : Type} {f : σ -> Option (σ ⊕ X)} {s0 : σ} (st : Nat -> σ) (n : Nat) (p : Nat -> Bool) (g : Nat -> X) (xe : X) (h0 : s0 = st 0)
 (hs : ∀ k, k < n -> f (st k) = some (if p k then .inr (g k) else .inl (st (k + 1)))) (he : f (st n) = some (.inr xe)) :
 loopM f s0 = some (match (List.range n).find? p with | some k => g k | none => xe) := by
 rw [h0, zeC st n (fun k => if p k then some (g k) else none) xe (fun k hk => by rw [hs k hk]; cases p k <;> rfl) he, zcW]
def firstIdx (n : Nat) (p : Nat -> Bool) : Int := match (List.range n).find? p with
 | some k => (k : Int)
 | none => -1
def firstR (n : Nat) (p : Nat -> Bool) : Unit ⊕ Int := match (List.range n).find? p with
 | some k => .inr (k : Int)
 | none => .inl ()
theorem zcc {σ : Type} {f : σ -> Option (σ ⊕ (Unit ⊕ Int))} {s0 : σ} (st : Nat -> σ) (n : Nat) (p : Nat -> Bool) (h0 : s0 = st 0)
 (hs : ∀ k, k < n -> f (st k) = some (if p k then .inr (.inr (k : Int)) else .inl (st (k + 1)))) (he : f (st n) = some (.inr (.inl ()))) :
 loopM f s0 = some (firstR n p) := by
 rw [zhq st n p (fun k => .inr (k : Int)) (.inl ()) h0 hs he]
 unfold firstR
 cases (List.range n).find? p <;> rfl
theorem zcg (n : Nat) (p : Nat -> Bool) : sumE (firstR n p) (fun _ => some (-1 : Int)) (fun z => some z) = some (firstIdx n p) := by
 unfold firstR firstIdx
 cases (List.range n).find? p <;> rfl
theorem zd0 (n : Nat) (p : Nat -> Bool) : decide ((0 : Int) <= firstIdx n p) = (List.range n).any p := by
 unfold firstIdx
 cases h : (List.range n).find? p with
 | none =>
   have : (List.range n).any p = false := by
    rw [List.find?_eq_none] at h
    rw [zak]
    intro k hk
    have := h k (List.mem_range.2 hk)
    simpa using this
   rw [this]; rfl
 | some k =>
   have h1 := List.find?_some h
   have h2 := List.mem_of_find?_eq_some h
   have : (List.range n).any p = true := List.any_eq_true.2 ⟨k, h2, h1⟩
   rw [this]
   exact decide_eq_true (Int.natCast_nonneg k)
theorem zax {n : Nat} {p : Nat -> Bool} : (List.range n).any p = true ↔ ∃ k, k < n /\ p k = true := by simp
theorem zeh {n : Nat} {p : Nat -> Bool} : (List.range n).any p = false ↔ ∀ k, k < n -> p k = false := by simp
theorem zhw {A : Type} (l : List A) (d : A) {k : Nat} (h : k < l.length) : l.take (k + 1) = l.take k ++ [l.getD k d] := by
 rw [List.take_succ_eq_append_getElem h, List.getD_eq_getElem?_getD, List.getElem?_eq_getElem h]; rfl
theorem zcl {A : Type} {l : List A} {k : Nat} (h : k < l.length) (d : A) : l.getD k d ∈ l := by
 rw [List.getD_eq_getElem?_getD, List.getElem?_eq_getElem h]; exact List.getElem_mem h
theorem zgf {A : Type} {l : List A} {k : Nat} (h : k < l.length) (v d : A) : (l.set k v).getD k d = v := by
 rw [List.getD_eq_getElem?_getD, List.getElem?_set_self h]; rfl
theorem zg0 {A : Type} (l : List A) (d : A) (p : A -> Bool) : ((List.range l.length).any fun k => p (l.getD k d)) = l.any p := by
 rw [Bool.eq_iff_iff, List.any_eq_true, List.any_eq_true]
 constructor
 · rintro ⟨k, hk, h⟩
   exact ⟨_, zcl (List.mem_range.1 hk) d, h⟩
 · rintro ⟨x, hx, h⟩
   obtain ⟨k, hk, e⟩ := List.getElem_of_mem hx
   refine ⟨k, List.mem_range.2 hk, ?_⟩
   rw [List.getD_eq_getElem?_getD, List.getElem?_eq_getElem hk]
   simpa [e] using h
noncomputable def spec_l1Cur_next (a0 : List (Int)) (a1 : Int) (a2 : Int) : Option (Int × Int × Int) :=
 (if (decide (a1 < ((a0.length : Nat) : Int))) then
 (chk ((decide ((0 : Int) <= a1)) && (decide (a1 < ((a0.length : Nat) : Int)))) <|
 some (i64 (a0.getD (Int.toNat a1) 0)) : Option (Int))
 else
 (some (0 : Int))).bind fun s0 =>
 if (decide ((i64 (a1 + (1 : Int))) <= ((a0.length : Nat) : Int))) then
 (some ((i64 (a1 + (1 : Int))), (u64 ((u64 ((u64 (a2 * (6364136223846793005 : Int))) + (u64 s0))) + (1442695040888963407 : Int))), s0))
 else
 some ((i64 (a1 + (1 : Int))), (u64 ((u64 ((u64 (a2 * (6364136223846793005 : Int))) + (u64 s0))) + (1442695040888963407 : Int))), (i64 (ands .u64 (shrs .u64 (u64 ((u64 ((u64 (a2 * (6364136223846793005 : Int))) + (u64 s0))) + (1442695040888963407 : Int))) (40 : Int)) (255 : Int))))
noncomputable def spec_l1Cur_pick (a0 : List (Int)) (a1 : Int) (a2 : Int) (a3 : Int) : Option (Int × Int × Int) :=
 if (decide (a3 <= (1 : Int))) then
 (some (a1, a2, (0 : Int)))
 else
 (spec_l1Cur_next a0 a1 a2).bind fun r0 =>
 (if (decide ((200 : Int) < a3)) then
 ((spec_l1Cur_next a0 r0.1 r0.2.1).bind fun r1 =>
 some (r1.1, r1.2.1, (i64 ((i64 (r0.2.2 * (256 : Int))) + r1.2.2))) : Option (Int × Int × Int))
 else
 (some (r0.1, r0.2.1, r0.2.2))).bind fun s2 =>
 chk (!decide (a3 = (0 : Int))) <|
 some (s2.1, s2.2.1, (Int.tmod s2.2.2 a3))
noncomputable def spec_l1Cur_one (a0 : List (Int)) (a1 : Int) (a2 : Int) (a3 : Int) : Option (Int × Int × Bool) :=
 (spec_l1Cur_pick a0 a1 a2 a3).bind fun r0 =>
 some (r0.1, r0.2.1, (decide (r0.2.2 = (0 : Int))))
noncomputable def impl_in (a0 : Int) (a1 : Int) (a2 : Int) : Option (Bool) :=
 let v0 : Bool := (if (decide (a1 <= a0)) then (decide (a0 <= a2)) else false)
 some v0
noncomputable def spec_l1In (a0 : Int) (a1 : Int) (a2 : Int) : Option (Bool) :=
 let v0 : Bool := (if (decide (a1 <= a0)) then (decide (a0 <= a2)) else false)
 some v0
theorem zeE (n a b : Int) : impl_in n a b = some (decide (a <= n) && decide (n <= b)) := by
 unfold impl_in
 simp only [zi9]
theorem zbT (n a b : Int) : spec_l1In n a b = some (decide (a <= n) && decide (n <= b)) := by
 unfold spec_l1In
 simp only [zi9]
abbrev Tx := List UInt8
def SK {A : Type} (key : A -> Tx) (l : List A) : Prop := l.Pairwise fun x y => Op.bytesLess (key x) (key y) = true
theorem SK.get {A : Type} {key : A -> Tx} {l : List A} (h : SK key l) (d : A) {i j : Nat} (hij : i < j) (hj : j < l.length) : Op.bytesLess (key (l.getD i d)) (key (l.getD j d)) = true := by
 have := List.pairwise_iff_getElem.1 h i j (by omega) hj hij
 rw [List.getD_eq_getElem?_getD, List.getD_eq_getElem?_getD, List.getElem?_eq_getElem hj, List.getElem?_eq_getElem (show i < l.length by omega)]
 exact this
noncomputable def slices_Index__int_int (a0 : List (Int)) (a1 : Int) : Option (Int) :=
 let j0 : Unit -> Option _ := fun s1 =>
 (some (-1 : Int))
 (loopM (σ := Int) (X := (Unit) ⊕ (Int)) (fun s2 =>
 (if (decide (s2 < ((a0.length : Nat) : Int))) then
 (let j3 : Unit -> Option _ := fun s4 =>
 (some (.inl (i64 (s2 + (1 : Int)))))
 chk ((decide ((0 : Int) <= s2)) && (decide (s2 < ((a0.length : Nat) : Int)))) <|
 if (decide (a1 = (a0.getD (Int.toNat s2) 0))) then
 (some (.inr (.inr s2)))
 else
 j3 ())
 else
 some (.inr (.inl ())))) (0 : Int)).bind fun x5 =>
 sumE x5 (fun y6 =>
 j0 ()) (fun z7 =>
 some z7)
noncomputable def slices_Contains__int_int (a0 : List (Int)) (a1 : Int) : Option (Bool) :=
 (slices_Index__int_int a0 a1).bind fun r0 =>
 some (decide ((0 : Int) <= r0))
noncomputable def math_bits_Len32 (a0 : Int) : Option (Int) :=
 (if (decide ((65536 : Int) <= a0)) then
 (some ((shrs .u32 a0 (16 : Int)), (16 : Int)) : Option (Int × Int))
 else
 (some (a0, (0 : Int)))).bind fun s0 =>
 (if (decide ((256 : Int) <= s0.1)) then
 (some ((shrs .u32 s0.1 (8 : Int)), (i64 (s0.2 + (8 : Int)))) : Option (Int × Int))
 else
 (some (s0.1, s0.2))).bind fun s1 =>
 chk ((decide ((0 : Int) <= (u8 s1.1))) && (decide ((u8 s1.1) < ((([0, 1, 2, 2, 3, 3, 3, 3, 4, 4, 4, 4, 4, 4, 4, 4, 5, 5, 5, 5, 5, 5, 5, 5, 5, 5, 5, 5, 5, 5, 5, 5, 6, 6, 6, 6, 6, 6, 6, 6, 6, 6, 6, 6, 6, 6, 6, 6, 6, 6, 6, 6, 6, 6, 6, 6, 6, 6, 6, 6, 6, 6, 6, 6, 7, 7, 7, 7, 7, 7, 7, 7, 7, 7, 7, 7, 7, 7, 7, 7, 7, 7, 7, 7, 7, 7, 7, 7, 7, 7, 7, 7, 7, 7, 7, 7, 7, 7, 7, 7, 7, 7, 7, 7, 7, 7, 7, 7, 7, 7, 7, 7, 7, 7, 7, 7, 7, 7, 7, 7, 7, 7, 7, 7, 7, 7, 7, 7, 8, 8, 8, 8, 8, 8, 8, 8, 8, 8, 8, 8, 8, 8, 8, 8, 8, 8, 8, 8, 8, 8, 8, 8, 8, 8, 8, 8, 8, 8, 8, 8, 8, 8, 8, 8, 8, 8, 8, 8, 8, 8, 8, 8, 8, 8, 8, 8, 8, 8, 8, 8, 8, 8, 8, 8, 8, 8, 8, 8, 8, 8, 8, 8, 8, 8, 8, 8, 8, 8, 8, 8, 8, 8, 8, 8, 8, 8, 8, 8, 8, 8, 8, 8, 8, 8, 8, 8, 8, 8, 8, 8, 8, 8, 8, 8, 8, 8, 8, 8, 8, 8, 8, 8, 8, 8, 8, 8, 8, 8, 8, 8, 8, 8, 8, 8, 8, 8, 8, 8, 8, 8, 8, 8, 8, 8, 8, 8] : List UInt8).length : Nat) : Int)))) <|
 some (i64 (s1.2 + (i64 (((([0, 1, 2, 2, 3, 3, 3, 3, 4, 4, 4, 4, 4, 4, 4, 4, 5, 5, 5, 5, 5, 5, 5, 5, 5, 5, 5, 5, 5, 5, 5, 5, 6, 6, 6, 6, 6, 6, 6, 6, 6, 6, 6, 6, 6, 6, 6, 6, 6, 6, 6, 6, 6, 6, 6, 6, 6, 6, 6, 6, 6, 6, 6, 6, 7, 7, 7, 7, 7, 7, 7, 7, 7, 7, 7, 7, 7, 7, 7, 7, 7, 7, 7, 7, 7, 7, 7, 7, 7, 7, 7, 7, 7, 7, 7, 7, 7, 7, 7, 7, 7, 7, 7, 7, 7, 7, 7, 7, 7, 7, 7, 7, 7, 7, 7, 7, 7, 7, 7, 7, 7, 7, 7, 7, 7, 7, 7, 7, 8, 8, 8, 8, 8, 8, 8, 8, 8, 8, 8, 8, 8, 8, 8, 8, 8, 8, 8, 8, 8, 8, 8, 8, 8, 8, 8, 8, 8, 8, 8, 8, 8, 8, 8, 8, 8, 8, 8, 8, 8, 8, 8, 8, 8, 8, 8, 8, 8, 8, 8, 8, 8, 8, 8, 8, 8, 8, 8, 8, 8, 8, 8, 8, 8, 8, 8, 8, 8, 8, 8, 8, 8, 8, 8, 8, 8, 8, 8, 8, 8, 8, 8, 8, 8, 8, 8, 8, 8, 8, 8, 8, 8, 8, 8, 8, 8, 8, 8, 8, 8, 8, 8, 8, 8, 8, 8, 8, 8, 8, 8, 8, 8, 8, 8, 8, 8, 8, 8, 8, 8, 8, 8, 8, 8, 8, 8, 8] : List UInt8).getD (Int.toNat (u8 s1.1)) 0).toNat : Nat) : Int))))
noncomputable def math_bits_Len64 (a0 : Int) : Option (Int) :=
 (if (decide ((4294967296 : Int) <= a0)) then
 (some ((shrs .u64 a0 (32 : Int)), (32 : Int)) : Option (Int × Int))
 else
 (some (a0, (0 : Int)))).bind fun s0 =>
 (if (decide ((65536 : Int) <= s0.1)) then
 (some ((shrs .u64 s0.1 (16 : Int)), (i64 (s0.2 + (16 : Int)))) : Option (Int × Int))
 else
 (some (s0.1, s0.2))).bind fun s1 =>
 (if (decide ((256 : Int) <= s1.1)) then
 (some ((shrs .u64 s1.1 (8 : Int)), (i64 (s1.2 + (8 : Int)))) : Option (Int × Int))
 else
 (some (s1.1, s1.2))).bind fun s2 =>
 chk ((decide ((0 : Int) <= (u8 s2.1))) && (decide ((u8 s2.1) < ((([0, 1, 2, 2, 3, 3, 3, 3, 4, 4, 4, 4, 4, 4, 4, 4, 5, 5, 5, 5, 5, 5, 5, 5, 5, 5, 5, 5, 5, 5, 5, 5, 6, 6, 6, 6, 6, 6, 6, 6, 6, 6, 6, 6, 6, 6, 6, 6, 6, 6, 6, 6, 6, 6, 6, 6, 6, 6, 6, 6, 6, 6, 6, 6, 7, 7, 7, 7, 7, 7, 7, 7, 7, 7, 7, 7, 7, 7, 7, 7, 7, 7, 7, 7, 7, 7, 7, 7, 7, 7, 7, 7, 7, 7, 7, 7, 7, 7, 7, 7, 7, 7, 7, 7, 7, 7, 7, 7, 7, 7, 7, 7, 7, 7, 7, 7, 7, 7, 7, 7, 7, 7, 7, 7, 7, 7, 7, 7, 8, 8, 8, 8, 8, 8, 8, 8, 8, 8, 8, 8, 8, 8, 8, 8, 8, 8, 8, 8, 8, 8, 8, 8, 8, 8, 8, 8, 8, 8, 8, 8, 8, 8, 8, 8, 8, 8, 8, 8, 8, 8, 8, 8, 8, 8, 8, 8, 8, 8, 8, 8, 8, 8, 8, 8, 8, 8, 8, 8, 8, 8, 8, 8, 8, 8, 8, 8, 8, 8, 8, 8, 8, 8, 8, 8, 8, 8, 8, 8, 8, 8, 8, 8, 8, 8, 8, 8, 8, 8, 8, 8, 8, 8, 8, 8, 8, 8, 8, 8, 8, 8, 8, 8, 8, 8, 8, 8, 8, 8, 8, 8, 8, 8, 8, 8, 8, 8, 8, 8, 8, 8, 8, 8, 8, 8, 8, 8] : List UInt8).length : Nat) : Int)))) <|
 some (i64 (s2.2 + (i64 (((([0, 1, 2, 2, 3, 3, 3, 3, 4, 4, 4, 4, 4, 4, 4, 4, 5, 5, 5, 5, 5, 5, 5, 5, 5, 5, 5, 5, 5, 5, 5, 5, 6, 6, 6, 6, 6, 6, 6, 6, 6, 6, 6, 6, 6, 6, 6, 6, 6, 6, 6, 6, 6, 6, 6, 6, 6, 6, 6, 6, 6, 6, 6, 6, 7, 7, 7, 7, 7, 7, 7, 7, 7, 7, 7, 7, 7, 7, 7, 7, 7, 7, 7, 7, 7, 7, 7, 7, 7, 7, 7, 7, 7, 7, 7, 7, 7, 7, 7, 7, 7, 7, 7, 7, 7, 7, 7, 7, 7, 7, 7, 7, 7, 7, 7, 7, 7, 7, 7, 7, 7, 7, 7, 7, 7, 7, 7, 7, 8, 8, 8, 8, 8, 8, 8, 8, 8, 8, 8, 8, 8, 8, 8, 8, 8, 8, 8, 8, 8, 8, 8, 8, 8, 8, 8, 8, 8, 8, 8, 8, 8, 8, 8, 8, 8, 8, 8, 8, 8, 8, 8, 8, 8, 8, 8, 8, 8, 8, 8, 8, 8, 8, 8, 8, 8, 8, 8, 8, 8, 8, 8, 8, 8, 8, 8, 8, 8, 8, 8, 8, 8, 8, 8, 8, 8, 8, 8, 8, 8, 8, 8, 8, 8, 8, 8, 8, 8, 8, 8, 8, 8, 8, 8, 8, 8, 8, 8, 8, 8, 8, 8, 8, 8, 8, 8, 8, 8, 8, 8, 8, 8, 8, 8, 8, 8, 8, 8, 8, 8, 8, 8, 8, 8, 8, 8, 8] : List UInt8).getD (Int.toNat (u8 s2.1)) 0).toNat : Nat) : Int))))
noncomputable def math_bits_Len (a0 : Int) : Option (Int) :=
 if false then
 ((math_bits_Len32 (u32 a0)).bind fun r0 =>
 some r0)
 else
 (math_bits_Len64 a0).bind fun r1 =>
 some r1
noncomputable def cmp_isNaN_int (a0 : Int) : Option (Bool) :=
 some (!decide (a0 = a0))
noncomputable def cmp_Less_int (a0 : Int) (a1 : Int) : Option (Bool) :=
 (cmp_isNaN_int a0).bind fun r0 =>
 (if r0 then cmp_isNaN_int a1 else some false).bind fun r1 =>
 let v2 : Bool := (if r0 then (!r1) else false)
 let v3 : Bool := (if v2 then true else (decide (a0 < a1)))
 some v3
noncomputable def slices_insertionSortOrdered_int (a0 : List (Int)) (a1 : Int) (a2 : Int) : Option (List (Int)) :=
 ((loopM (σ := (List (Int)) × Int) (X := List (Int)) (fun s0 =>
 (if (decide (s0.2 < a2)) then
 ((((loopM (σ := (List (Int)) × Int) (X := List (Int)) (fun s1 =>
 (chk (!(decide (a1 < s1.2)) || ((decide ((0 : Int) <= s1.2)) && (decide (s1.2 < ((s1.1.length : Nat) : Int))))) <|
 chk (!(decide (a1 < s1.2)) || ((decide ((0 : Int) <= (i64 (s1.2 - (1 : Int))))) && (decide ((i64 (s1.2 - (1 : Int))) < ((s1.1.length : Nat) : Int))))) <|
 (if (decide (a1 < s1.2)) then cmp_Less_int (s1.1.getD (Int.toNat s1.2) 0) (s1.1.getD (Int.toNat (i64 (s1.2 - (1 : Int)))) 0) else some false).bind fun r2 =>
 let v3 : Bool := (if (decide (a1 < s1.2)) then r2 else false)
 if v3 then
 ((chk ((decide ((0 : Int) <= (i64 (s1.2 - (1 : Int))))) && (decide ((i64 (s1.2 - (1 : Int))) < ((s1.1.length : Nat) : Int)))) <|
 chk ((decide ((0 : Int) <= s1.2)) && (decide (s1.2 < ((s1.1.length : Nat) : Int)))) <|
 chk ((decide ((0 : Int) <= s1.2)) && (decide (s1.2 < ((s1.1.length : Nat) : Int)))) <|
 let v4 : List (Int) := (s1.1.set (Int.toNat s1.2) (s1.1.getD (Int.toNat (i64 (s1.2 - (1 : Int)))) 0))
 chk ((decide ((0 : Int) <= (i64 (s1.2 - (1 : Int))))) && (decide ((i64 (s1.2 - (1 : Int))) < ((v4.length : Nat) : Int)))) <|
 let v5 : List (Int) := (v4.set (Int.toNat (i64 (s1.2 - (1 : Int)))) (s1.1.getD (Int.toNat s1.2) 0))
 some v5 : Option (List (Int))).bind fun s6 =>
 some (.inl (s6, (i64 (s1.2 - (1 : Int))))))
 else
 some (.inr s1.1))) (s0.1, s0.2)).bind fun x7 =>
 some x7 : Option (List (Int))).bind fun s8 =>
 some s8 : Option (List (Int))).bind fun s9 =>
 some (.inl (s9, (i64 (s0.2 + (1 : Int))))))
 else
 some (.inr s0.1))) (a0, (i64 (a1 + (1 : Int))))).bind fun x10 =>
 some x10 : Option (List (Int))).bind fun s11 =>
 some s11
noncomputable def slices_pdqsortOrdered_int (a0 : List (Int)) (a1 : Int) (a2 : Int) (a3 : Int) : Option (List (Int)) :=
 (loopM (σ := Unit) (X := List (Int)) (fun s0 =>
 (if (decide ((i64 (a2 - a1)) <= (12 : Int))) then
 ((slices_insertionSortOrdered_int a0 a1 a2).bind fun r1 =>
 some (.inr r1))
 else
 chk false <|
 none)) ()).bind fun x2 =>
 some x2
noncomputable def slices_Sort__int_int (a0 : List (Int)) : Option (List (Int)) :=
 (math_bits_Len (u64 ((a0.length : Nat) : Int))).bind fun r0 =>
 (slices_pdqsortOrdered_int a0 (0 : Int) ((a0.length : Nat) : Int) r0).bind fun r1 =>
 some r1
noncomputable def spec_l1Cur_of (a0 : List (Int)) (a1 : Int) (a2 : Int) (a3 : List (List UInt8)) : Option (Int × Int × List UInt8) :=
 (spec_l1Cur_pick a0 a1 a2 ((a3.length : Nat) : Int)).bind fun r0 =>
 chk ((decide ((0 : Int) <= r0.2.2)) && (decide (r0.2.2 < ((a3.length : Nat) : Int)))) <|
 some (r0.1, r0.2.1, (a3.getD (Int.toNat r0.2.2) []))
noncomputable def spec_l1Key (a0 : List UInt8) : Option (Bool) :=
 let j0 : Unit -> Option _ := fun s1 =>
 ((spec_l1In ((a0.length : Nat) : Int) (1 : Int) (8 : Int)).bind fun r2 =>
 some r2)
 (loopM (σ := Int) (X := (Unit) ⊕ (Bool)) (fun s3 =>
 (if (decide (s3 < ((a0.length : Nat) : Int))) then
 (let j4 : Unit -> Option _ := fun s5 =>
 (some (.inl (i64 (s3 + (1 : Int)))))
 chk ((decide ((0 : Int) <= s3)) && (decide (s3 < ((a0.length : Nat) : Int)))) <|
 let v6 : Bool := (if (decide ((97 : Int) <= (((a0.getD (Int.toNat s3) 0).toNat : Nat) : Int))) then (decide ((((a0.getD (Int.toNat s3) 0).toNat : Nat) : Int) <= (122 : Int))) else false)
 let v7 : Bool := (if (decide ((48 : Int) <= (((a0.getD (Int.toNat s3) 0).toNat : Nat) : Int))) then (decide ((((a0.getD (Int.toNat s3) 0).toNat : Nat) : Int) <= (57 : Int))) else false)
 let v8 : Bool := (if v6 then true else v7)
 if (!v8) then
 (some (.inr (.inr false)))
 else
 j4 ())
 else
 some (.inr (.inl ())))) (0 : Int)).bind fun x9 =>
 sumE x9 (fun y10 =>
 j0 ()) (fun z11 =>
 some z11)
noncomputable def strings_Trim (a0 : List UInt8) (a1 : List UInt8) : Option (List UInt8) :=
 chk (ascii a1) <|
 chk (decide (((a0.length : Nat) : Int) <= (1000 : Int))) <|
 some (trim a0 a1)
noncomputable def impl_isKey (a0 : List UInt8) : Option (Bool) :=
 let v0 : Bool := (if (decide ((1 : Int) <= ((a0.length : Nat) : Int))) then (decide (((a0.length : Nat) : Int) <= (8 : Int))) else false)
 (if v0 then strings_Trim a0 ([97, 98, 99, 100, 101, 102, 103, 104, 105, 106, 107, 108, 109, 110, 111, 112, 113, 114, 115, 116, 117, 118, 119, 120, 121, 122, 48, 49, 50, 51, 52, 53, 54, 55, 56, 57] : List UInt8) else some []).bind fun r1 =>
 let v2 : Bool := (if v0 then (decide (r1 = ([] : List UInt8))) else false)
 some v2
def kc (b : UInt8) : Bool := (Nat.ble 97 b.toNat && Nat.ble b.toNat 122) || (Nat.ble 48 b.toNat && Nat.ble b.toNat 57)
def isKy (l : List UInt8) : Bool := decide (1 <= l.length) && decide (l.length <= 8) && l.all kc
theorem zgE {A : Type} (p : A -> Bool) : ∀ l : List A, (l.dropWhile p = []) ↔ l.all p = true
 | [] => by simp
 | a :: l => by
   by_cases h : p a = true
   · simp [List.dropWhile, h, zgE p l]
   · simp [List.dropWhile, h]
theorem zhF {A : Type} (p : A -> Bool) : ∀ l : List A, (l.dropWhile p).all p = true -> l.dropWhile p = []
 | [], _ => rfl
 | a :: l, h => by
   by_cases ha : p a = true
   · simp only [List.dropWhile, ha] at h ⊢; exact zhF p l h
   · simp only [List.dropWhile, ha] at h; simp [ha] at h
theorem zit (l cs : List UInt8) : (trim l cs = []) ↔ l.all (cs.contains ·) = true := by
 unfold trim
 rw [zgE]
 constructor
 · intro h
   rw [List.all_reverse] at h
   have := (zgE _ _).1 (zhF _ _ h)
   rwa [List.all_reverse] at this
 · intro h
   have : l.reverse.dropWhile (cs.contains ·) = [] := (zgE _ _).2 (by rw [List.all_reverse]; exact h)
   rw [this]; rfl
def kset : List UInt8 := [97, 98, 99, 100, 101, 102, 103, 104, 105, 106, 107, 108, 109, 110, 111, 112, 113, 114, 115, 116, 117, 118, 119, 120, 121, 122, 48, 49, 50, 51, 52, 53, 54, 55, 56, 57]
theorem zi3 : ∀ n, n < 256 -> kset.contains (UInt8.ofNat n) = kc (UInt8.ofNat n) := by decide +kernel
theorem ziD (b : UInt8) : kset.contains b = kc b := by
 have := zi3 b.toNat (UInt8.toNat_lt b)
 rwa [UInt8.ofNat_toNat] at this
theorem zfl (l : List UInt8) : impl_isKey l = some (isKy l) := by
 unfold impl_isKey isKy
 by_cases h1 : 1 <= l.length
 · by_cases h2 : l.length <= 8
   · have e1 : strings_Trim l kset = some (trim l kset) := by
      unfold strings_Trim
      have : ascii kset = true := by decide
      rw [this]
      simp (disch := omega) only [Cc, if_true, if_false]
     have e2 : decide (trim l kset = []) = l.all kc := by
      rw [Bool.eq_iff_iff, decide_eq_true_eq, zit]
      simp only [ziD]
     unfold kset at e1 e2
     simp (disch := omega) only [Cc, if_true, if_false, e1, e2]
   · have h2' : ¬ (((l.length : Nat) : Int) <= 8) := by omega
     simp [h2, h2']
 · have h1' : ¬ ((1 : Int) <= ((l.length : Nat) : Int)) := by omega
   have h1'' : l.length = 0 := by omega
   simp only [h1', decide_false, Bool.false_eq_true, if_false, bind_some, h1'']
   rfl
theorem zjs (b : UInt8) : kc b = ((decide ((97 : Int) <= ((b.toNat : Nat) : Int)) && decide (((b.toNat : Nat) : Int) <= 122)) || (decide ((48 : Int) <= ((b.toNat : Nat) : Int)) && decide (((b.toNat : Nat) : Int) <= 57))) := by
 unfold kc
 have e : ∀ a b : Nat, Nat.ble a b = decide ((a : Int) <= (b : Int)) := fun a b => by
  rw [Bool.eq_iff_iff, decide_eq_true_eq, Nat.ble_eq]; omega
 simp only [e]; rfl
theorem zfp (l : List UInt8) (h : l.length <= 1000000000) : spec_l1Key l = some (isKy l) := by
 unfold spec_l1Key isKy
 refine zag (zgG (fun k : Nat => (k : Int)) l.length (fun k => !kc (l.getD k 0)) (.inr false) (.inl ()) ?_ ?_) ?_
 · intro k hk
   have hk1 : (k : Int) < l.length := by omega
   simp (disch := omega) only [Cc, if_true, if_false, zi9, zhl]
   rw [<- zjs]
   cases kc (l.getD k 0) <;> simp
 · simp
 · have : ((List.range l.length).any fun k => !kc (l.getD k 0)) = !l.all kc := by
    rw [zg0 l 0 (fun b => !kc b)]
    rw [List.all_eq_not_any_not, Bool.not_not]
   rw [this]
   cases hk : l.all kc with
   | true =>
     simp only [Bool.not_true, Bool.false_eq_true, if_false, zd5, zbT, bind_some, Bool.and_true]
     congr 2
     · simp only [decide_eq_decide]; omega
     · simp only [decide_eq_decide]; omega
   | false => simp
noncomputable def spec_l1Cur_key (a0 : List (Int)) (a1 : Int) (a2 : Int) : Option (Int × Int × List UInt8) :=
 (spec_l1Cur_one a0 a1 a2 (60 : Int)).bind fun r0 =>
 if r0.2.2 then
 (let v1 : List (List UInt8) := (([] : List UInt8) :: (([65] : List UInt8) :: (([49, 50, 51, 52, 53, 54, 55, 56, 57] : List UInt8) :: ([] : List (List UInt8)))))
 (spec_l1Cur_of a0 r0.1 r0.2.1 v1).bind fun r2 =>
 some (r2.1, r2.2.1, r2.2.2))
 else
 let v3 : List (List UInt8) := (([97] : List UInt8) :: (([98] : List UInt8) :: (([99] : List UInt8) :: (([100] : List UInt8) :: ([] : List (List UInt8))))))
 (spec_l1Cur_of a0 r0.1 r0.2.1 v3).bind fun r4 =>
 some (r4.1, r4.2.1, r4.2.2)
noncomputable def cmp_Compare_int (a0 : Int) (a1 : Int) : Option (Int) :=
 (cmp_isNaN_int a0).bind fun r0 =>
 (cmp_isNaN_int a1).bind fun r1 =>
 if r0 then
 (if r1 then
 (some (0 : Int))
 else
 some (-1 : Int))
 else
 if r1 then
 (some (1 : Int))
 else
 if (decide (a0 < a1)) then
 (some (-1 : Int))
 else
 if (decide (a1 < a0)) then
 (some (1 : Int))
 else
 some (0 : Int)
noncomputable def cmp_Or_int (a0 : List (Int)) : Option (Int) :=
 let j0 : Unit -> Option _ := fun s1 =>
 (some (0 : Int))
 (loopM (σ := Int) (X := (Unit) ⊕ (Int)) (fun s2 =>
 (if (decide (s2 < ((a0.length : Nat) : Int))) then
 (let j3 : Unit -> Option _ := fun s4 =>
 (some (.inl (i64 (s2 + (1 : Int)))))
 chk ((decide ((0 : Int) <= s2)) && (decide (s2 < ((a0.length : Nat) : Int)))) <|
 if (!decide ((a0.getD (Int.toNat s2) 0) = (0 : Int))) then
 (some (.inr (.inr (a0.getD (Int.toNat s2) 0))))
 else
 j3 ())
 else
 some (.inr (.inl ())))) (0 : Int)).bind fun x5 =>
 sumE x5 (fun y6 =>
 j0 ()) (fun z7 =>
 some z7)
theorem zja (x y : Int) : cmp_Or_int (x :: y :: []) = some (if x = 0 then y else x) := by
 unfold cmp_Or_int
 have hl : (((x :: y :: [] : List Int).length : Nat) : Int) = 2 := rfl
 simp only [hl]
 by_cases hx : x = 0
 · by_cases hy : y = 0
   · refine zag (a := .inl ()) ?_ ?_
     · rw [zaz]
       simp only [hx, hy]
       simp (config := { decide := true }) only [if_true, zaj, Int.toNat_zero, List.getD_cons_zero, Bool.and_self, decide_true, Bool.not_true, Bool.false_eq_true, if_false]
       rw [zaz]
       simp (config := { decide := true })
       rw [zaz]
       simp (config := { decide := true })
     · simp [hx, hy]
   · refine zag (a := .inr y) ?_ ?_
     · rw [zaz]
       simp only [hx]
       simp (config := { decide := true }) only [if_true, zaj, Int.toNat_zero, List.getD_cons_zero, Bool.and_self, decide_true, Bool.not_true, Bool.false_eq_true, if_false]
       rw [zaz]
       have e : i64 (0 + 1) = 1 := by decide
       have e1 : i64 1 = 1 := by decide
       simp [e, e1, hy]
     · simp [hx]
 · refine zag (a := .inr x) ?_ ?_
   · rw [zaz]
     simp [hx]
   · simp [hx]
theorem zes (a b : Int) : cmp_Compare_int a b = some (if a < b then -1 else if b < a then 1 else 0) := by
 unfold cmp_Compare_int
 have e : ∀ x : Int, cmp_isNaN_int x = some false := fun x => by simp [cmp_isNaN_int]
 simp only [e, bind_some, Bool.false_eq_true, if_false]
 by_cases h1 : a < b
 · simp [h1]
 · by_cases h2 : b < a <;> simp [h1, h2]
def Byt (a : List Int) : Prop := ∀ b ∈ a, 0 <= b /\ b <= 255
theorem Byt.get {a : List Int} (h : Byt a) (k : Nat) : 0 <= a.getD k 0 /\ a.getD k 0 <= 255 := by
 by_cases hk : k < a.length
 · exact h _ (zcl hk 0)
 · rw [List.getD_eq_getElem?_getD, List.getElem?_eq_none (by omega)]; simp
theorem zgN (x : Int) : 0 <= ands .u64 x 255 /\ ands .u64 x 255 <= 255 := by
 unfold ands
 have h : (BitVec.ofInt IntKind.u64.bits x &&& BitVec.ofInt IntKind.u64.bits 255).toNat <= 255 := by
  rw [BitVec.toNat_and]
  exact Nat.le_trans Nat.and_le_right (by decide)
 have := zhC (x := ((BitVec.ofInt IntKind.u64.bits x &&& BitVec.ofInt IntKind.u64.bits 255).toNat : Int)) (by omega) (by omega)
 unfold u64 at this
 rw [this]; omega
theorem zhx {a : List Int} {p h : Int} (hb : Byt a) (h0 : 0 <= p) (h1 : p <= 1000000000000000000) : Ok (spec_l1Cur_next a p h) (fun r => r.1 = p + 1 /\ 0 <= r.2.2 /\ r.2.2 <= 255) := by
 unfold spec_l1Cur_next
 refine Ok.bind (P := fun b => 0 <= b /\ b <= 255) ?_ ?_
 · refine Ok.ite (fun hc => ?_) fun hc => Ok.ret (by omega)
   have hc' : p < a.length := of_decide_eq_true hc
   have := hb.get p.toNat
   simp (disch := omega) only [Cc, if_true, if_false]
   exact Ok.ret (by omega)
 · intro b hb
   have := fun x => zgN x
   rw [zac (x := p + 1) (by omega) (by omega)]
   refine Ok.ite (fun hc => Ok.ret ⟨rfl, hb⟩) fun hc => Ok.ret ⟨rfl, ?_⟩
   generalize hq : ands .u64 _ 255 = q
   have := zgN (shrs .u64 (u64 ((u64 ((u64 (h * (6364136223846793005 : Int))) + (u64 b))) + (1442695040888963407 : Int))) (40 : Int))
   rw [hq] at this
   rw [zac (by omega) (by omega)]; exact this
theorem zby {a : List Int} {p h : Int} (hb : Byt a) (h0 : 0 <= p) (h1 : p <= 100000000000000000) (n : Int) : Ok (spec_l1Cur_pick a p h n) (fun r => p <= r.1 /\ r.1 <= p + 2 /\ 0 <= r.2.2 /\ r.2.2 <= max 0 (n - 1)) := by
 unfold spec_l1Cur_pick
 refine Ok.ite (fun hc => Ok.ret (by dsimp only; omega)) fun hc => ?_
 have hn : ¬ n <= 1 := by simpa using hc
 refine Ok.bind (zhx hb h0 (by omega)) fun r hr => ?_
 refine Ok.bind (P := fun s => p <= s.1 /\ s.1 <= p + 2 /\ 0 <= s.2.2) ?_ ?_
 · refine Ok.ite (fun hc => ?_) fun hc => Ok.ret (by dsimp only; omega)
   refine Ok.bind (zhx hb (by omega) (by omega)) fun q hq => ?_
   simp (disch := omega) only [Cc, if_true, if_false]
   exact Ok.ret (by dsimp only; omega)
 · intro s hs
   simp (disch := omega) only [Cc, if_true, if_false]
   refine Ok.ret ⟨hs.1, hs.2.1, ?_, ?_⟩
   · exact Int.tmod_nonneg _ hs.2.2
   · have := Int.tmod_lt_of_pos s.2.2 (show 0 < n by omega)
     dsimp only; omega
theorem ze6 {a : List Int} {p h : Int} (hb : Byt a) (h0 : 0 <= p) (h1 : p <= 100000000000000000) (n : Int) : Ok (spec_l1Cur_one a p h n) (fun r => p <= r.1 /\ r.1 <= p + 2) := by
 unfold spec_l1Cur_one
 exact Ok.bind (zby hb h0 h1 n) fun r hr => Ok.ret ⟨hr.1, hr.2.1⟩
theorem Ok.bb {A B D : Type} {m : Option A} {f : A -> Option B} {g : B -> Option D} {Q : D -> Prop} (h : Ok (m.bind fun a => (f a).bind g) Q) : Ok ((m.bind f).bind g) Q := by
 cases m <;> exact h
theorem Ok.bs {A B : Type} {a : A} {f : A -> Option B} {Q : B -> Prop} (h : Ok (f a) Q) : Ok ((some a).bind f) Q := h
theorem Ok.bi {A B : Type} {c : Prop} [Decidable c] {a b : Option A} {f : A -> Option B} {Q : B -> Prop} (h : c -> Ok (a.bind f) Q) (k : ¬ c -> Ok (b.bind f) Q) : Ok ((if c then a else b).bind f) Q := by
 split
 · exact h ‹_›
 · exact k ‹_›
theorem Ok.bc {A B : Type} {c : Bool} {m : Option A} {f : A -> Option B} {Q : B -> Prop} (h : c = true) (k : Ok (m.bind f) Q) : Ok ((Sh.chk c m).bind f) Q := by rw [zbx h]; exact k
theorem Ok.bid {A B : Type} {c : Prop} [Decidable c] {a b : Option A} {f : A -> Option B} {Q : B -> Prop} (h : c -> Ok (a.bind f) Q) (k : ¬ c -> Ok (b.bind f) Q) : Ok ((if decide c = true then a else b).bind f) Q :=
 Ok.bi (fun hc => h (of_decide_eq_true hc)) fun hc => k (of_decide_eq_false (by simpa using hc))
theorem Ok.ited {A : Type} {c : Prop} [Decidable c] {a b : Option A} {Q : A -> Prop} (h : c -> Ok a Q) (k : ¬ c -> Ok b Q) : Ok (if decide c = true then a else b) Q :=
 Ok.ite (fun hc => h (of_decide_eq_true hc)) fun hc => k (of_decide_eq_false (by simpa using hc))
theorem Ok.be {A B : Type} {m : Option A} {a : A} {f : A -> Option B} {Q : B -> Prop} (h : m = some a) (k : Ok (f a) Q) : Ok (m.bind f) Q := by rw [h]; exact k
theorem Ok.any {A : Type} {m : Option A} {Q : A -> Prop} (h : Ok m Q) : Ok m fun _ => True := h.mono fun _ _ => trivial
theorem zi7 {a : List Int} {p h : Int} (hb : Byt a) (h0 : 0 <= p) (h1 : p <= 100000000000000000) {l : List (List UInt8)} (hl : l ≠ []) : Ok (spec_l1Cur_of a p h l) (fun r => p <= r.1 /\ r.1 <= p + 2 /\ r.2.2 ∈ l) := by
 unfold spec_l1Cur_of
 refine Ok.bind (zby hb h0 h1 _) fun r hr => ?_
 have hlen : 0 < l.length := List.length_pos_iff.2 hl
 simp (disch := omega) only [Cc, if_true, if_false]
 exact Ok.ret ⟨hr.1, hr.2.1, zcl (by omega) _⟩
theorem zjn {a : List Int} {p h : Int} (hb : Byt a) (h0 : 0 <= p) (h1 : p <= 100000000000000000 - 10) : Ok (spec_l1Cur_key a p h) (fun r => p <= r.1 /\ r.1 <= p + 4 /\ r.2.2.length <= 9) := by
 unfold spec_l1Cur_key
 refine Ok.bind (ze6 hb h0 (by omega) _) fun r hr => ?_
 refine Ok.ite (fun _ => ?_) fun _ => ?_
 · refine Ok.bind (zi7 hb (by omega) (by omega) (by simp)) fun s hs => ?_
   refine Ok.ret ⟨by dsimp only; omega, by dsimp only; omega, ?_⟩
   obtain ⟨_, _, hm⟩ := hs
   simp only [List.mem_cons, List.not_mem_nil, or_false] at hm
   rcases hm with h | h | h <;> simp [h]
 · refine Ok.bind (zi7 hb (by omega) (by omega) (by simp)) fun s hs => ?_
   refine Ok.ret ⟨by dsimp only; omega, by dsimp only; omega, ?_⟩
   obtain ⟨_, _, hm⟩ := hs
   simp only [List.mem_cons, List.not_mem_nil, or_false] at hm
   rcases hm with h | h | h | h <;> simp [h]
noncomputable def spec_l3Commit (a0 : List ((Int) × (Int) × List UInt8)) (a1 : Int) : Option (Int) :=
 let j0 : Unit -> Option _ := fun s1 =>
 (some (-1 : Int))
 (loopM (σ := Int) (X := (Unit) ⊕ (Int)) (fun s2 =>
 (if (decide (s2 < ((a0.length : Nat) : Int))) then
 (let j3 : Unit -> Option _ := fun s4 =>
 (some (.inl (i64 (s2 + (1 : Int)))))
 chk ((decide ((0 : Int) <= s2)) && (decide (s2 < ((a0.length : Nat) : Int)))) <|
 let v5 : (Int) × (Int) × List UInt8 := (a0.getD (Int.toNat s2) (0, (0, [])))
 let v6 : Bool := (if (decide (v5.2.1 = a1)) then (decide (v5.1 = (3 : Int))) else false)
 if v6 then
 (some (.inr (.inr s2)))
 else
 j3 ())
 else
 some (.inr (.inl ())))) (0 : Int)).bind fun x7 =>
 sumE x7 (fun y8 =>
 j0 ()) (fun z9 =>
 some z9)
noncomputable def spec_l1Cur_ops (a0 : List (Int)) (a1 : Int) (a2 : Int) : Option (Int × Int × List ((Int) × (Int) × List UInt8)) :=
 (spec_l1Cur_pick a0 a1 a2 (4 : Int)).bind fun r0 =>
 (spec_l1Cur_pick a0 r0.1 r0.2.1 (14 : Int)).bind fun r1 =>
 (spec_l1Cur_one a0 r1.1 r1.2.1 (20 : Int)).bind fun r2 =>
 (if r2.2.2 then
 (some (50 : Int) : Option (Int))
 else
 (some r1.2.2)).bind fun s3 =>
 ((loopM (σ := Int × Int × (List ((Int) × (Int) × List UInt8)) × Int) (X := Int × Int × List ((Int) × (Int) × List UInt8)) (fun s4 =>
 (if (decide ((0 : Int) < s4.2.2.2)) then
 (((spec_l1Cur_pick a0 s4.1 s4.2.1 (2 : Int)).bind fun r5 =>
 (spec_l1Cur_pick a0 r5.1 r5.2.1 (i64 ((1 : Int) + r0.2.2))).bind fun r6 =>
 (spec_l1Cur_key a0 r6.1 r6.2.1).bind fun r7 =>
 (spec_l1Cur_one a0 r7.1 r7.2.1 (60 : Int)).bind fun r8 =>
 (if r8.2.2 then
 (some ([] : List UInt8) : Option (List UInt8))
 else
 (some r7.2.2)).bind fun s9 =>
 let v10 : List ((Int) × (Int) × List UInt8) := (((i64 ((1 : Int) + r5.2.2)), ((i64 ((1 : Int) + r6.2.2)), s9)) :: ([] : List ((Int) × (Int) × List UInt8)))
 let v11 : List ((Int) × (Int) × List UInt8) := (s4.2.2.1 ++ v10)
 chk (decide (((v11.length : Nat) : Int) <= (4398046511104 : Int))) <|
 some (r8.1, r8.2.1, v11) : Option (Int × Int × List ((Int) × (Int) × List UInt8))).bind fun s12 =>
 some (.inl (s12.1, s12.2.1, s12.2.2, (i64 (s4.2.2.2 - (1 : Int))))))
 else
 some (.inr (s4.1, s4.2.1, s4.2.2.1)))) (r2.1, r2.2.1, ([] : List ((Int) × (Int) × List UInt8)), s3)).bind fun x13 =>
 some (x13.1, x13.2.1, x13.2.2) : Option (Int × Int × List ((Int) × (Int) × List UInt8))).bind fun s14 =>
 ((loopM (σ := Int × Int × (List ((Int) × (Int) × List UInt8)) × Int) (X := Int × Int × List ((Int) × (Int) × List UInt8)) (fun s15 =>
 (if (decide (s15.2.2.2 < ((s14.2.2.length : Nat) : Int))) then
 ((chk ((decide ((0 : Int) <= s15.2.2.2)) && (decide (s15.2.2.2 < ((s14.2.2.length : Nat) : Int)))) <|
 let v16 : (Int) × (Int) × List UInt8 := (s14.2.2.getD (Int.toNat s15.2.2.2) (0, (0, [])))
 let v17 : List ((Int) × (Int) × List UInt8) := ((v16.1, (v16.2.1, v16.2.2)) :: ([] : List ((Int) × (Int) × List UInt8)))
 let v18 : List ((Int) × (Int) × List UInt8) := (s15.2.2.1 ++ v17)
 chk (decide (((v18.length : Nat) : Int) <= (4398046511104 : Int))) <|
 chk ((decide ((0 : Int) <= (i64 (s15.2.2.2 + (1 : Int))))) && ((decide ((i64 (s15.2.2.2 + (1 : Int))) <= ((s14.2.2.length : Nat) : Int))) && (decide (((s14.2.2.length : Nat) : Int) <= ((s14.2.2.length : Nat) : Int))))) <|
 ((loopM (σ := Bool × Int) (X := Bool) (fun s19 =>
 (if (decide (s19.2 < (((s14.2.2.length : Nat) : Int) - (i64 (s15.2.2.2 + (1 : Int)))))) then
 ((chk ((decide ((0 : Int) <= s19.2)) && (decide (s19.2 < (((s14.2.2.length : Nat) : Int) - (i64 (s15.2.2.2 + (1 : Int))))))) <|
 chk (decide (0 <= ((i64 (s15.2.2.2 + (1 : Int))) + s19.2)) && decide (((i64 (s15.2.2.2 + (1 : Int))) + s19.2) < ((s14.2.2.length : Nat) : Int))) <|
 let v20 : (Int) × (Int) × List UInt8 := (s14.2.2.getD (Int.toNat ((i64 (s15.2.2.2 + (1 : Int))) + s19.2)) (0, (0, [])))
 let v21 : Bool := (if s19.1 then true else (decide (v20.2.1 = v16.2.1)))
 some v21 : Option (Bool)).bind fun s22 =>
 some (.inl (s22, (i64 (s19.2 + (1 : Int))))))
 else
 some (.inr s19.1))) (false, (0 : Int))).bind fun x23 =>
 some x23 : Option (Bool)).bind fun s24 =>
 (if (!s24) then spec_l1Cur_one a0 s15.1 s15.2.1 (3 : Int) else some (0, 0, false)).bind fun r25 =>
 let v26 : Int := (if (!s24) then r25.1 else s15.1)
 let v27 : Int := (if (!s24) then r25.2.1 else s15.2.1)
 let v28 : Bool := (if (!s24) then (!r25.2.2) else false)
 (if v28 then
 (let v29 : List ((Int) × (Int) × List UInt8) := (((3 : Int), (v16.2.1, ([] : List UInt8))) :: ([] : List ((Int) × (Int) × List UInt8)))
 let v30 : List ((Int) × (Int) × List UInt8) := (v18 ++ v29)
 chk (decide (((v30.length : Nat) : Int) <= (4398046511104 : Int))) <|
 some v30 : Option (List ((Int) × (Int) × List UInt8)))
 else
 (some v18)).bind fun s31 =>
 some (v26, v27, s31) : Option (Int × Int × List ((Int) × (Int) × List UInt8))).bind fun s32 =>
 some (.inl (s32.1, s32.2.1, s32.2.2, (i64 (s15.2.2.2 + (1 : Int))))))
 else
 some (.inr (s15.1, s15.2.1, s15.2.2.1)))) (s14.1, s14.2.1, ([] : List ((Int) × (Int) × List UInt8)), (0 : Int))).bind fun x33 =>
 some (x33.1, x33.2.1, x33.2.2) : Option (Int × Int × List ((Int) × (Int) × List UInt8))).bind fun s34 =>
 ((loopM (σ := Int × Int × (List ((Int) × (Int) × List UInt8)) × Int) (X := Int × Int × List ((Int) × (Int) × List UInt8)) (fun s35 =>
 (if (decide (s35.2.2.2 <= (i64 ((1 : Int) + r0.2.2)))) then
 (((spec_l3Commit s35.2.2.1 s35.2.2.2).bind fun r36 =>
 (if (decide (r36 < (0 : Int))) then spec_l1Cur_one a0 s35.1 s35.2.1 (40 : Int) else some (0, 0, false)).bind fun r37 =>
 let v38 : Int := (if (decide (r36 < (0 : Int))) then r37.1 else s35.1)
 let v39 : Int := (if (decide (r36 < (0 : Int))) then r37.2.1 else s35.2.1)
 let v40 : Bool := (if (decide (r36 < (0 : Int))) then (!r37.2.2) else false)
 (if v40 then
 (let v41 : List ((Int) × (Int) × List UInt8) := (((3 : Int), (s35.2.2.2, ([] : List UInt8))) :: ([] : List ((Int) × (Int) × List UInt8)))
 let v42 : List ((Int) × (Int) × List UInt8) := (s35.2.2.1 ++ v41)
 chk (decide (((v42.length : Nat) : Int) <= (4398046511104 : Int))) <|
 some v42 : Option (List ((Int) × (Int) × List UInt8)))
 else
 (some s35.2.2.1)).bind fun s43 =>
 some (v38, v39, s43) : Option (Int × Int × List ((Int) × (Int) × List UInt8))).bind fun s44 =>
 some (.inl (s44.1, s44.2.1, s44.2.2, (i64 (s35.2.2.2 + (1 : Int))))))
 else
 some (.inr (s35.1, s35.2.1, s35.2.2.1)))) (s34.1, s34.2.1, s34.2.2, (1 : Int))).bind fun x45 =>
 some (x45.1, x45.2.1, x45.2.2) : Option (Int × Int × List ((Int) × (Int) × List UInt8))).bind fun s46 =>
 some (s46.1, s46.2.1, s46.2.2)
noncomputable def spec_DrawIsTwoPhase (a0 : List (Int)) : Option ((List ((Int) × (Int) × List UInt8)) × List (Int)) :=
 (spec_l1Cur_ops a0 (0 : Int) (0 : Int)).bind fun r0 =>
 chk ((decide ((0 : Int) <= ((r0.2.2.length : Nat) : Int))) && (decide (((r0.2.2.length : Nat) : Int) <= (17592186044416 : Int)))) <|
 let v1 : List (Int) := (List.replicate (Int.toNat ((r0.2.2.length : Nat) : Int)) (0 : Int))
 (spec_l1Cur_pick a0 r0.1 r0.2.1 (3 : Int)).bind fun r2 =>
 ((loopM (σ := Int × Int × (List (Int)) × Int) (X := Int × Int × List (Int)) (fun s3 =>
 (if (decide (s3.2.2.2 < ((r0.2.2.length : Nat) : Int))) then
 ((chk ((decide ((0 : Int) <= s3.2.2.2)) && (decide (s3.2.2.2 < ((r0.2.2.length : Nat) : Int)))) <|
 let v4 : (Int) × (Int) × List UInt8 := (r0.2.2.getD (Int.toNat s3.2.2.2) (0, (0, [])))
 if (decide (v4.1 = (3 : Int))) then
 (some (s3.1, s3.2.1, s3.2.2.1))
 else
 chk ((decide ((0 : Int) <= s3.2.2.2)) && (decide (s3.2.2.2 < ((s3.2.2.1.length : Nat) : Int)))) <|
 let v5 : List (Int) := (s3.2.2.1.set (Int.toNat s3.2.2.2) s3.2.2.2)
 ((if (decide (r2.2.2 = (0 : Int))) then
 ((spec_l3Commit r0.2.2 v4.2.1).bind fun r6 =>
 (if (decide (s3.2.2.2 < r6)) then
 (chk ((decide ((0 : Int) <= s3.2.2.2)) && (decide (s3.2.2.2 < ((v5.length : Nat) : Int)))) <|
 let v7 : List (Int) := (v5.set (Int.toNat s3.2.2.2) r6)
 some v7 : Option (List (Int)))
 else
 (some v5)).bind fun s8 =>
 some (s3.1, s3.2.1, s8) : Option (Int × Int × List (Int)))
 else
 ((if (decide (r2.2.2 = (1 : Int))) then
 (((loopM (σ := (List (Int)) × Int) (X := List (Int)) (fun s9 =>
 (if (decide (s9.2 < ((r0.2.2.length : Nat) : Int))) then
 ((chk ((decide ((0 : Int) <= s9.2)) && (decide (s9.2 < ((r0.2.2.length : Nat) : Int)))) <|
 chk (!(decide ((r0.2.2.getD (Int.toNat s9.2) (0, (0, []))).2.1 = v4.2.1)) || ((decide ((0 : Int) <= s9.2)) && (decide (s9.2 < ((r0.2.2.length : Nat) : Int))))) <|
 let v10 : Bool := (if (decide ((r0.2.2.getD (Int.toNat s9.2) (0, (0, []))).2.1 = v4.2.1)) then (!decide ((r0.2.2.getD (Int.toNat s9.2) (0, (0, []))).1 = (3 : Int))) else false)
 (if v10 then
 (chk ((decide ((0 : Int) <= s3.2.2.2)) && (decide (s3.2.2.2 < ((s9.1.length : Nat) : Int)))) <|
 let v11 : List (Int) := (s9.1.set (Int.toNat s3.2.2.2) s9.2)
 some v11 : Option (List (Int)))
 else
 (some s9.1)).bind fun s12 =>
 some s12 : Option (List (Int))).bind fun s13 =>
 some (.inl (s13, (i64 (s9.2 + (1 : Int))))))
 else
 some (.inr s9.1))) (v5, s3.2.2.2)).bind fun x14 =>
 some x14 : Option (List (Int))).bind fun s15 =>
 some (s3.1, s3.2.1, s15) : Option (Int × Int × List (Int)))
 else
 ((spec_l1Cur_pick a0 s3.1 s3.2.1 (i64 (((r0.2.2.length : Nat) : Int) - s3.2.2.2))).bind fun r16 =>
 chk ((decide ((0 : Int) <= s3.2.2.2)) && (decide (s3.2.2.2 < ((v5.length : Nat) : Int)))) <|
 let v17 : List (Int) := (v5.set (Int.toNat s3.2.2.2) (i64 (s3.2.2.2 + r16.2.2)))
 some (r16.1, r16.2.1, v17))).bind fun s18 =>
 some (s18.1, s18.2.1, s18.2.2))).bind fun s19 =>
 some (s19.1, s19.2.1, s19.2.2) : Option (Int × Int × List (Int))).bind fun s20 =>
 some (s20.1, s20.2.1, s20.2.2) : Option (Int × Int × List (Int))).bind fun s21 =>
 some (.inl (s21.1, s21.2.1, s21.2.2, (i64 (s3.2.2.2 + (1 : Int))))))
 else
 some (.inr (s3.1, s3.2.1, s3.2.2.1)))) (r2.1, r2.2.1, v1, (0 : Int))).bind fun x22 =>
 some (x22.1, x22.2.1, x22.2.2) : Option (Int × Int × List (Int))).bind fun s23 =>
 (spec_l1Cur_one a0 s23.1 s23.2.1 (20 : Int)).bind fun r24 =>
 let v25 : Bool := (if r24.2.2 then (decide ((0 : Int) < ((s23.2.2.length : Nat) : Int))) else false)
 (if v25 then
 ((spec_l1Cur_pick a0 r24.1 r24.2.1 ((s23.2.2.length : Nat) : Int)).bind fun r26 =>
 (spec_l1Cur_pick a0 r26.1 r26.2.1 (70 : Int)).bind fun r27 =>
 chk ((decide ((0 : Int) <= r26.2.2)) && (decide (r26.2.2 < ((s23.2.2.length : Nat) : Int)))) <|
 let v28 : List (Int) := (s23.2.2.set (Int.toNat r26.2.2) (i64 (r27.2.2 - (2 : Int))))
 some v28 : Option (List (Int)))
 else
 (some s23.2.2)).bind fun s29 =>
 some (r0.2.2, s29)
noncomputable def impl_areOps (a0 : List ((Int) × (Int) × List UInt8)) : Option (Bool) :=
 let v0 : List (Bool) := (List.replicate (Int.toNat (9 : Int)) false)
 chk (decide (((v0.length : Nat) : Int) = (9 : Int))) <|
 let v1 : List (Bool) := (false :: (false :: (false :: (false :: (false :: (false :: (false :: (false :: (false :: ([] : List (Bool)))))))))))
 let v2 : List (Bool) := (List.replicate (Int.toNat (9 : Int)) false)
 chk (decide (((v2.length : Nat) : Int) = (9 : Int))) <|
 let v3 : List (Bool) := (false :: (false :: (false :: (false :: (false :: (false :: (false :: (false :: (false :: ([] : List (Bool)))))))))))
 let j4 : (List (Bool)) × List (Bool) -> Option _ := fun s5 =>
 (chk (!(decide (((a0.length : Nat) : Int) <= (60 : Int))) || (decide (((s5.2.length : Nat) : Int) = (9 : Int)))) <|
 chk (!(decide (((a0.length : Nat) : Int) <= (60 : Int))) || (decide (((s5.1.length : Nat) : Int) = (9 : Int)))) <|
 chk (!(decide (((a0.length : Nat) : Int) <= (60 : Int))) || (decide (0 <= (0 : Int)) && decide ((0 : Int) < ((s5.2.length : Nat) : Int)))) <|
 chk (!(decide (((a0.length : Nat) : Int) <= (60 : Int))) || (decide (0 <= (0 : Int)) && decide ((0 : Int) < ((s5.1.length : Nat) : Int)))) <|
 chk (!(decide (((a0.length : Nat) : Int) <= (60 : Int))) || (decide (0 <= (1 : Int)) && decide ((1 : Int) < ((s5.2.length : Nat) : Int)))) <|
 chk (!(decide (((a0.length : Nat) : Int) <= (60 : Int))) || (decide (0 <= (1 : Int)) && decide ((1 : Int) < ((s5.1.length : Nat) : Int)))) <|
 chk (!(decide (((a0.length : Nat) : Int) <= (60 : Int))) || (decide (0 <= (2 : Int)) && decide ((2 : Int) < ((s5.2.length : Nat) : Int)))) <|
 chk (!(decide (((a0.length : Nat) : Int) <= (60 : Int))) || (decide (0 <= (2 : Int)) && decide ((2 : Int) < ((s5.1.length : Nat) : Int)))) <|
 chk (!(decide (((a0.length : Nat) : Int) <= (60 : Int))) || (decide (0 <= (3 : Int)) && decide ((3 : Int) < ((s5.2.length : Nat) : Int)))) <|
 chk (!(decide (((a0.length : Nat) : Int) <= (60 : Int))) || (decide (0 <= (3 : Int)) && decide ((3 : Int) < ((s5.1.length : Nat) : Int)))) <|
 chk (!(decide (((a0.length : Nat) : Int) <= (60 : Int))) || (decide (0 <= (4 : Int)) && decide ((4 : Int) < ((s5.2.length : Nat) : Int)))) <|
 chk (!(decide (((a0.length : Nat) : Int) <= (60 : Int))) || (decide (0 <= (4 : Int)) && decide ((4 : Int) < ((s5.1.length : Nat) : Int)))) <|
 chk (!(decide (((a0.length : Nat) : Int) <= (60 : Int))) || (decide (0 <= (5 : Int)) && decide ((5 : Int) < ((s5.2.length : Nat) : Int)))) <|
 chk (!(decide (((a0.length : Nat) : Int) <= (60 : Int))) || (decide (0 <= (5 : Int)) && decide ((5 : Int) < ((s5.1.length : Nat) : Int)))) <|
 chk (!(decide (((a0.length : Nat) : Int) <= (60 : Int))) || (decide (0 <= (6 : Int)) && decide ((6 : Int) < ((s5.2.length : Nat) : Int)))) <|
 chk (!(decide (((a0.length : Nat) : Int) <= (60 : Int))) || (decide (0 <= (6 : Int)) && decide ((6 : Int) < ((s5.1.length : Nat) : Int)))) <|
 chk (!(decide (((a0.length : Nat) : Int) <= (60 : Int))) || (decide (0 <= (7 : Int)) && decide ((7 : Int) < ((s5.2.length : Nat) : Int)))) <|
 chk (!(decide (((a0.length : Nat) : Int) <= (60 : Int))) || (decide (0 <= (7 : Int)) && decide ((7 : Int) < ((s5.1.length : Nat) : Int)))) <|
 chk (!(decide (((a0.length : Nat) : Int) <= (60 : Int))) || (decide (0 <= (8 : Int)) && decide ((8 : Int) < ((s5.2.length : Nat) : Int)))) <|
 chk (!(decide (((a0.length : Nat) : Int) <= (60 : Int))) || (decide (0 <= (8 : Int)) && decide ((8 : Int) < ((s5.1.length : Nat) : Int)))) <|
 let v6 : Bool := (if (decide (((a0.length : Nat) : Int) <= (60 : Int))) then (((s5.2.getD (Int.toNat (0 : Int)) false) == (s5.1.getD (Int.toNat (0 : Int)) false)) && (((s5.2.getD (Int.toNat (1 : Int)) false) == (s5.1.getD (Int.toNat (1 : Int)) false)) && (((s5.2.getD (Int.toNat (2 : Int)) false) == (s5.1.getD (Int.toNat (2 : Int)) false)) && (((s5.2.getD (Int.toNat (3 : Int)) false) == (s5.1.getD (Int.toNat (3 : Int)) false)) && (((s5.2.getD (Int.toNat (4 : Int)) false) == (s5.1.getD (Int.toNat (4 : Int)) false)) && (((s5.2.getD (Int.toNat (5 : Int)) false) == (s5.1.getD (Int.toNat (5 : Int)) false)) && (((s5.2.getD (Int.toNat (6 : Int)) false) == (s5.1.getD (Int.toNat (6 : Int)) false)) && (((s5.2.getD (Int.toNat (7 : Int)) false) == (s5.1.getD (Int.toNat (7 : Int)) false)) && ((s5.2.getD (Int.toNat (8 : Int)) false) == (s5.1.getD (Int.toNat (8 : Int)) false)))))))))) else false)
 some v6)
 (loopM (σ := (List (Bool)) × (List (Bool)) × Int) (X := ((List (Bool)) × List (Bool)) ⊕ (Bool)) (fun s7 =>
 (if (decide (s7.2.2 < ((a0.length : Nat) : Int))) then
 (let j8 : (List (Bool)) × List (Bool) -> Option _ := fun s9 =>
 (some (.inl (s9.1, s9.2, (i64 (s7.2.2 + (1 : Int))))))
 chk ((decide ((0 : Int) <= s7.2.2)) && (decide (s7.2.2 < ((a0.length : Nat) : Int)))) <|
 let v10 : (Int) × (Int) × List UInt8 := (a0.getD (Int.toNat s7.2.2) (0, (0, [])))
 (impl_in v10.1 (1 : Int) (3 : Int)).bind fun r11 =>
 (if (!(!r11)) then impl_in v10.2.1 (1 : Int) (8 : Int) else some false).bind fun r12 =>
 let v13 : Bool := (if (!r11) then true else (!r12))
 chk (!(!v13) || ((decide ((0 : Int) <= v10.2.1)) && (decide (v10.2.1 < (9 : Int))))) <|
 chk (!(!v13) || ((decide ((0 : Int) <= v10.2.1)) && (decide (v10.2.1 < ((s7.1.length : Nat) : Int))))) <|
 let v14 : Bool := (if v13 then true else (s7.1.getD (Int.toNat v10.2.1) false))
 let v15 : Bool := (if (decide (v10.1 = (3 : Int))) then (!decide (v10.2.2 = ([] : List UInt8))) else false)
 let v16 : Bool := (if v14 then true else v15)
 (if ((!v16) && (!decide (v10.1 = (3 : Int)))) then impl_isKey v10.2.2 else some false).bind fun r17 =>
 let v18 : Bool := (if (!decide (v10.1 = (3 : Int))) then (!r17) else false)
 let v19 : Bool := (if v16 then true else v18)
 if v19 then
 (some (.inr (.inr false)))
 else
 chk ((decide ((0 : Int) <= v10.2.1)) && (decide (v10.2.1 < (9 : Int)))) <|
 chk ((decide ((0 : Int) <= v10.2.1)) && (decide (v10.2.1 < ((s7.2.1.length : Nat) : Int)))) <|
 let v20 : List (Bool) := (s7.2.1.set (Int.toNat v10.2.1) true)
 chk ((decide ((0 : Int) <= v10.2.1)) && (decide (v10.2.1 < (9 : Int)))) <|
 chk ((decide ((0 : Int) <= v10.2.1)) && (decide (v10.2.1 < ((s7.1.length : Nat) : Int)))) <|
 let v21 : List (Bool) := (s7.1.set (Int.toNat v10.2.1) (decide (v10.1 = (3 : Int))))
 j8 (v21, v20))
 else
 some (.inr (.inl (s7.1, s7.2.1))))) (v1, v3, (0 : Int))).bind fun x22 =>
 sumE x22 (fun y23 =>
 j4 (y23.1, y23.2)) (fun z24 =>
 some z24)
noncomputable def impl_spansOf_1 (a0 : Int) (a1 : List UInt8) (a2 : Int) (a3 : Int) (a4 : Bool) (a5 : Int) (a6 : Int) (a7 : List UInt8) : Option (Bool) :=
 let v0 : Bool := (if (decide (a0 = a6)) then (decide (a1 = a7)) else false)
 some v0
noncomputable def slices_IndexFunc__impl_span_impl_span (a0 : List ((Int) × (List UInt8) × (Int) × (Int) × Bool)) (a1 : Int) (a2 : Int) (a3 : List UInt8) : Option (Int) :=
 let j0 : Unit -> Option _ := fun s1 =>
 (some (-1 : Int))
 (loopM (σ := Int) (X := (Unit) ⊕ (Int)) (fun s2 =>
 (if (decide (s2 < ((a0.length : Nat) : Int))) then
 (let j3 : Unit -> Option _ := fun s4 =>
 (some (.inl (i64 (s2 + (1 : Int)))))
 chk ((decide ((0 : Int) <= s2)) && (decide (s2 < ((a0.length : Nat) : Int)))) <|
 let v5 : (Int) × (List UInt8) × (Int) × (Int) × Bool := (a0.getD (Int.toNat s2) (0, ([], (0, (0, false)))))
 (impl_spansOf_1 v5.1 v5.2.1 v5.2.2.1 v5.2.2.2.1 v5.2.2.2.2 a1 a2 a3).bind fun r6 =>
 if r6 then
 (some (.inr (.inr s2)))
 else
 j3 ())
 else
 some (.inr (.inl ())))) (0 : Int)).bind fun x7 =>
 sumE x7 (fun y8 =>
 j0 ()) (fun z9 =>
 some z9)
noncomputable def impl_spansOf (a0 : List ((Int) × (Int) × List UInt8)) (a1 : List (Int)) : Option (List ((Int) × (List UInt8) × (Int) × (Int) × Bool)) :=
 ((loopM (σ := (List ((Int) × (List UInt8) × (Int) × (Int) × Bool)) × Int) (X := List ((Int) × (List UInt8) × (Int) × (Int) × Bool)) (fun s0 =>
 (if (decide (s0.2 < ((a0.length : Nat) : Int))) then
 ((chk ((decide ((0 : Int) <= s0.2)) && (decide (s0.2 < ((a0.length : Nat) : Int)))) <|
 let v1 : (Int) × (Int) × List UInt8 := (a0.getD (Int.toNat s0.2) (0, (0, [])))
 if (decide (v1.1 = (3 : Int))) then
 (some s0.1)
 else
 (slices_IndexFunc__impl_span_impl_span s0.1 v1.1 v1.2.1 v1.2.2).bind fun r2 =>
 (if (decide (r2 < (0 : Int))) then
 (let v3 : List ((Int) × (List UInt8) × (Int) × (Int) × Bool) := ((v1.2.1, (v1.2.2, (s0.2, ((0 : Int), false)))) :: ([] : List ((Int) × (List UInt8) × (Int) × (Int) × Bool)))
 let v4 : List ((Int) × (List UInt8) × (Int) × (Int) × Bool) := (s0.1 ++ v3)
 chk (decide (((v4.length : Nat) : Int) <= (2932031007402 : Int))) <|
 some (v4, ((s0.1.length : Nat) : Int)) : Option ((List ((Int) × (List UInt8) × (Int) × (Int) × Bool)) × Int))
 else
 (some (s0.1, r2))).bind fun s5 =>
 chk ((decide ((0 : Int) <= s5.2)) && (decide (s5.2 < ((s5.1.length : Nat) : Int)))) <|
 chk ((decide ((0 : Int) <= s0.2)) && (decide (s0.2 < ((a1.length : Nat) : Int)))) <|
 chk ((decide ((0 : Int) <= s5.2)) && (decide (s5.2 < ((s5.1.length : Nat) : Int)))) <|
 let v6 : List ((Int) × (List UInt8) × (Int) × (Int) × Bool) := (s5.1.set (Int.toNat s5.2) ((s5.1.getD (Int.toNat s5.2) (0, ([], (0, (0, false))))).1, ((s5.1.getD (Int.toNat s5.2) (0, ([], (0, (0, false))))).2.1, ((s5.1.getD (Int.toNat s5.2) (0, ([], (0, (0, false))))).2.2.1, ((max (s5.1.getD (Int.toNat s5.2) (0, ([], (0, (0, false))))).2.2.2.1 (a1.getD (Int.toNat s0.2) 0)), (s5.1.getD (Int.toNat s5.2) (0, ([], (0, (0, false))))).2.2.2.2)))))
 chk ((decide ((0 : Int) <= s5.2)) && (decide (s5.2 < ((v6.length : Nat) : Int)))) <|
 let v7 : Bool := (if (v6.getD (Int.toNat s5.2) (0, ([], (0, (0, false))))).2.2.2.2 then true else (decide (v1.1 = (2 : Int))))
 chk ((decide ((0 : Int) <= s5.2)) && (decide (s5.2 < ((v6.length : Nat) : Int)))) <|
 let v8 : List ((Int) × (List UInt8) × (Int) × (Int) × Bool) := (v6.set (Int.toNat s5.2) ((v6.getD (Int.toNat s5.2) (0, ([], (0, (0, false))))).1, ((v6.getD (Int.toNat s5.2) (0, ([], (0, (0, false))))).2.1, ((v6.getD (Int.toNat s5.2) (0, ([], (0, (0, false))))).2.2.1, ((v6.getD (Int.toNat s5.2) (0, ([], (0, (0, false))))).2.2.2.1, v7)))))
 some v8 : Option (List ((Int) × (List UInt8) × (Int) × (Int) × Bool))).bind fun s9 =>
 some (.inl (s9, (i64 (s0.2 + (1 : Int))))))
 else
 some (.inr s0.1))) (([] : List ((Int) × (List UInt8) × (Int) × (Int) × Bool)), (0 : Int))).bind fun x10 =>
 some x10 : Option (List ((Int) × (List UInt8) × (Int) × (Int) × Bool))).bind fun s11 =>
 some s11
noncomputable def impl_areTwoPhase (a0 : List ((Int) × (List UInt8) × (Int) × (Int) × Bool)) : Option (Bool) :=
 let j0 : Unit -> Option _ := fun s1 =>
 (some true)
 (loopM (σ := Int) (X := (Unit) ⊕ (Bool)) (fun s2 =>
 (if (decide (s2 < ((a0.length : Nat) : Int))) then
 (let j3 : Unit -> Option _ := fun s4 =>
 (some (.inl (i64 (s2 + (1 : Int)))))
 chk ((decide ((0 : Int) <= s2)) && (decide (s2 < ((a0.length : Nat) : Int)))) <|
 let v5 : (Int) × (List UInt8) × (Int) × (Int) × Bool := (a0.getD (Int.toNat s2) (0, ([], (0, (0, false)))))
 let j6 : Unit -> Option _ := fun s7 =>
 (j3 ())
 (loopM (σ := Int) (X := (Unit) ⊕ (Bool)) (fun s8 =>
 (if (decide (s8 < ((a0.length : Nat) : Int))) then
 (let j9 : Unit -> Option _ := fun s10 =>
 (some (.inl (i64 (s8 + (1 : Int)))))
 chk ((decide ((0 : Int) <= s8)) && (decide (s8 < ((a0.length : Nat) : Int)))) <|
 let v11 : (Int) × (List UInt8) × (Int) × (Int) × Bool := (a0.getD (Int.toNat s8) (0, ([], (0, (0, false)))))
 if (decide (s2 = s8)) then
 (j9 ())
 else
 let v12 : Bool := (if (decide (v5.2.1 = v11.2.1)) then (decide (v5.2.2.1 <= v11.2.2.2.1)) else false)
 let v13 : Bool := (if v12 then (decide (v11.2.2.1 <= v5.2.2.2.1)) else false)
 let v14 : Bool := (if v5.2.2.2.2 then true else v11.2.2.2.2)
 let v15 : Bool := (if v13 then v14 else false)
 let v16 : Bool := (if (!decide (v5.1 = v11.1)) then v15 else false)
 let v17 : Bool := (if (decide (v5.1 = v11.1)) then (decide (v11.2.2.2.1 < v5.2.2.1)) else false)
 let v18 : Bool := (if v16 then true else v17)
 if v18 then
 (some (.inr (.inr false)))
 else
 j9 ())
 else
 some (.inr (.inl ())))) (0 : Int)).bind fun x19 =>
 sumE x19 (fun y20 =>
 j6 ()) (fun z21 =>
 some (.inr (.inr z21))))
 else
 some (.inr (.inl ())))) (0 : Int)).bind fun x22 =>
 sumE x22 (fun y23 =>
 j0 ()) (fun z24 =>
 some z24)
noncomputable def impl_IsTwoPhase (a0 : List ((Int) × (Int) × List UInt8)) (a1 : List (Int)) : Option (Bool × Bool) :=
 (impl_areOps a0).bind fun r0 =>
 let v1 : Bool := (if (!r0) then true else (!decide (((a1.length : Nat) : Int) = ((a0.length : Nat) : Int))))
 if v1 then
 (some (false, false))
 else
 let j2 : Unit -> Option _ := fun s3 =>
 ((impl_spansOf a0 a1).bind fun r4 =>
 (impl_areTwoPhase r4).bind fun r5 =>
 some (r5, true))
 (loopM (σ := Int) (X := (Unit) ⊕ (Bool × Bool)) (fun s6 =>
 (if (decide (s6 < ((a0.length : Nat) : Int))) then
 (let j7 : Unit -> Option _ := fun s8 =>
 (some (.inl (i64 (s6 + (1 : Int)))))
 chk ((decide ((0 : Int) <= s6)) && (decide (s6 < ((a0.length : Nat) : Int)))) <|
 let v9 : (Int) × (Int) × List UInt8 := (a0.getD (Int.toNat s6) (0, (0, [])))
 chk (!(decide (v9.1 = (3 : Int))) || ((decide ((0 : Int) <= s6)) && (decide (s6 < ((a1.length : Nat) : Int))))) <|
 let v10 : Bool := (if (decide (v9.1 = (3 : Int))) then (!decide ((a1.getD (Int.toNat s6) 0) = (0 : Int))) else false)
 chk (!((!v10) && (!decide (v9.1 = (3 : Int)))) || ((decide ((0 : Int) <= s6)) && (decide (s6 < ((a1.length : Nat) : Int))))) <|
 (if ((!v10) && (!decide (v9.1 = (3 : Int)))) then impl_in (a1.getD (Int.toNat s6) 0) s6 (i64 (((a0.length : Nat) : Int) - (1 : Int))) else some false).bind fun r11 =>
 let v12 : Bool := (if (!decide (v9.1 = (3 : Int))) then (!r11) else false)
 let v13 : Bool := (if v10 then true else v12)
 if v13 then
 (some (.inr (.inr (false, false))))
 else
 j7 ())
 else
 some (.inr (.inl ())))) (0 : Int)).bind fun x14 =>
 sumE x14 (fun y15 =>
 j2 ()) (fun z16 =>
 some (z16.1, z16.2))
noncomputable def spec_GoodOps (a0 : List ((Int) × (Int) × List UInt8)) : Option (Bool) :=
 if (decide ((60 : Int) < ((a0.length : Nat) : Int))) then
 (some false)
 else
 let j0 : Unit -> Option _ := fun s1 =>
 (some true)
 (loopM (σ := Int) (X := (Unit) ⊕ (Bool)) (fun s2 =>
 (if (decide (s2 < ((a0.length : Nat) : Int))) then
 (let j3 : Unit -> Option _ := fun s4 =>
 (some (.inl (i64 (s2 + (1 : Int)))))
 chk ((decide ((0 : Int) <= s2)) && (decide (s2 < ((a0.length : Nat) : Int)))) <|
 let v5 : (Int) × (Int) × List UInt8 := (a0.getD (Int.toNat s2) (0, (0, [])))
 (spec_l1In v5.1 (1 : Int) (3 : Int)).bind fun r6 =>
 (if (!(!r6)) then spec_l1In v5.2.1 (1 : Int) (8 : Int) else some false).bind fun r7 =>
 let v8 : Bool := (if (!r6) then true else (!r7))
 let v9 : Bool := (if v8 then true else ((decide (v5.1 = (3 : Int))) != (decide (v5.2.2 = ([] : List UInt8)))))
 (if ((!v9) && (!decide (v5.2.2 = ([] : List UInt8)))) then spec_l1Key v5.2.2 else some false).bind fun r10 =>
 let v11 : Bool := (if (!decide (v5.2.2 = ([] : List UInt8))) then (!r10) else false)
 let v12 : Bool := (if v9 then true else v11)
 if v12 then
 (some (.inr (.inr false)))
 else
 chk ((decide ((0 : Int) <= (i64 (s2 + (1 : Int))))) && ((decide ((i64 (s2 + (1 : Int))) <= ((a0.length : Nat) : Int))) && (decide (((a0.length : Nat) : Int) <= ((a0.length : Nat) : Int))))) <|
 ((loopM (σ := Bool × Bool × Int) (X := Bool × Bool) (fun s13 =>
 (if (decide (s13.2.2 < (((a0.length : Nat) : Int) - (i64 (s2 + (1 : Int)))))) then
 ((chk ((decide ((0 : Int) <= s13.2.2)) && (decide (s13.2.2 < (((a0.length : Nat) : Int) - (i64 (s2 + (1 : Int))))))) <|
 chk (decide (0 <= ((i64 (s2 + (1 : Int))) + s13.2.2)) && decide (((i64 (s2 + (1 : Int))) + s13.2.2) < ((a0.length : Nat) : Int))) <|
 let v14 : (Int) × (Int) × List UInt8 := (a0.getD (Int.toNat ((i64 (s2 + (1 : Int))) + s13.2.2)) (0, (0, [])))
 let v15 : Bool := (if s13.1 then true else (decide (v14.2.1 = v5.2.1)))
 let v16 : Bool := (if (decide (v14.2.1 = v5.2.1)) then (decide (v14.1 = (3 : Int))) else false)
 let v17 : Bool := (if s13.2.1 then true else v16)
 some (v15, v17) : Option (Bool × Bool)).bind fun s18 =>
 some (.inl (s18.1, s18.2, (i64 (s13.2.2 + (1 : Int))))))
 else
 some (.inr (s13.1, s13.2.1)))) (false, false, (0 : Int))).bind fun x19 =>
 some (x19.1, x19.2) : Option (Bool × Bool)).bind fun s20 =>
 let v21 : Bool := (if (decide (v5.1 = (3 : Int))) then s20.1 else false)
 let v22 : Bool := (if (!decide (v5.1 = (3 : Int))) then (!s20.2) else false)
 let v23 : Bool := (if v21 then true else v22)
 if v23 then
 (some (.inr (.inr false)))
 else
 j3 ())
 else
 some (.inr (.inl ())))) (0 : Int)).bind fun x24 =>
 sumE x24 (fun y25 =>
 j0 ()) (fun z26 =>
 some z26)
noncomputable def spec_l3Hold (a0 : List ((Int) × (Int) × List UInt8)) (a1 : List (Int)) (a2 : Int) (a3 : List UInt8) : Option (Int × Int × Bool × Bool) :=
 ((loopM (σ := Int × Int × Bool × Int) (X := Int × Int × Bool) (fun s0 =>
 (if (decide (s0.2.2.2 < ((a0.length : Nat) : Int))) then
 ((chk ((decide ((0 : Int) <= s0.2.2.2)) && (decide (s0.2.2.2 < ((a0.length : Nat) : Int)))) <|
 let v1 : (Int) × (Int) × List UInt8 := (a0.getD (Int.toNat s0.2.2.2) (0, (0, [])))
 let v2 : Bool := (if (!decide (v1.2.1 = a2)) then true else (!decide (v1.2.2 = a3)))
 if v2 then
 (some (s0.1, s0.2.1, s0.2.2.1))
 else
 (if (decide (s0.1 < (0 : Int))) then
 (some s0.2.2.2 : Option (Int))
 else
 (some s0.1)).bind fun s3 =>
 chk ((decide ((0 : Int) <= s0.2.2.2)) && (decide (s0.2.2.2 < ((a1.length : Nat) : Int)))) <|
 (if (decide (s0.2.1 < (a1.getD (Int.toNat s0.2.2.2) 0))) then
 (chk ((decide ((0 : Int) <= s0.2.2.2)) && (decide (s0.2.2.2 < ((a1.length : Nat) : Int)))) <|
 some (a1.getD (Int.toNat s0.2.2.2) 0) : Option (Int))
 else
 (some s0.2.1)).bind fun s4 =>
 let v5 : Bool := (if s0.2.2.1 then true else (decide (v1.1 = (2 : Int))))
 some (s3, s4, v5) : Option (Int × Int × Bool)).bind fun s6 =>
 some (.inl (s6.1, s6.2.1, s6.2.2, (i64 (s0.2.2.2 + (1 : Int))))))
 else
 some (.inr (s0.1, s0.2.1, s0.2.2.1)))) ((-1 : Int), (-1 : Int), false, (0 : Int))).bind fun x7 =>
 some (x7.1, x7.2.1, x7.2.2) : Option (Int × Int × Bool)).bind fun s8 =>
 some (s8.1, s8.2.1, s8.2.2, (decide ((0 : Int) <= s8.1)))
noncomputable def spec_IsTwoPhase (a0 : List ((Int) × (Int) × List UInt8)) (a1 : List (Int)) : Option (Bool × Bool) :=
 (spec_GoodOps a0).bind fun r0 =>
 let v1 : Bool := (if (!r0) then true else (!decide (((a1.length : Nat) : Int) = ((a0.length : Nat) : Int))))
 if v1 then
 (some (false, false))
 else
 let j2 : Unit -> Option _ := fun s3 =>
 (let j4 : Unit -> Option _ := fun s5 =>
 (some (true, true))
 (loopM (σ := Int) (X := (Unit) ⊕ (Bool × Bool)) (fun s6 =>
 (if (decide (s6 < ((a0.length : Nat) : Int))) then
 (let j7 : Unit -> Option _ := fun s8 =>
 (some (.inl (i64 (s6 + (1 : Int)))))
 chk ((decide ((0 : Int) <= s6)) && (decide (s6 < ((a0.length : Nat) : Int)))) <|
 let v9 : (Int) × (Int) × List UInt8 := (a0.getD (Int.toNat s6) (0, (0, [])))
 if (decide (v9.2.2 = ([] : List UInt8))) then
 (j7 ())
 else
 (spec_l3Hold a0 a1 v9.2.1 v9.2.2).bind fun r10 =>
 let j11 : Unit -> Option _ := fun s12 =>
 (j7 ())
 (loopM (σ := Int) (X := (Unit) ⊕ (Bool × Bool)) (fun s13 =>
 (if (decide (s13 < ((a0.length : Nat) : Int))) then
 (let j14 : Unit -> Option _ := fun s15 =>
 (some (.inl (i64 (s13 + (1 : Int)))))
 chk ((decide ((0 : Int) <= s13)) && (decide (s13 < ((a0.length : Nat) : Int)))) <|
 let v16 : (Int) × (Int) × List UInt8 := (a0.getD (Int.toNat s13) (0, (0, [])))
 if (decide (v16.2.2 = ([] : List UInt8))) then
 (j14 ())
 else
 (spec_l3Hold a0 a1 v16.2.1 v16.2.2).bind fun r17 =>
 let v18 : Bool := (if (!decide (v16.2.1 = v9.2.1)) then (decide (v16.2.2 = v9.2.2)) else false)
 let v19 : Bool := (if r10.2.2.1 then true else r17.2.2.1)
 let v20 : Bool := (if v18 then v19 else false)
 let v21 : Bool := (if v20 then (decide (r10.1 <= r17.2.1)) else false)
 let v22 : Bool := (if v21 then (decide (r17.1 <= r10.2.1)) else false)
 if v22 then
 (some (.inr (.inr (false, true))))
 else
 let v23 : Bool := (if (decide (v16.2.1 = v9.2.1)) then (decide (r10.1 = s6)) else false)
 let v24 : Bool := (if v23 then (decide (r10.2.1 < r17.1)) else false)
 if v24 then
 (some (.inr (.inr (false, true))))
 else
 j14 ())
 else
 some (.inr (.inl ())))) (0 : Int)).bind fun x25 =>
 sumE x25 (fun y26 =>
 j11 ()) (fun z27 =>
 some (.inr (.inr (z27.1, z27.2)))))
 else
 some (.inr (.inl ())))) (0 : Int)).bind fun x28 =>
 sumE x28 (fun y29 =>
 j4 ()) (fun z30 =>
 some (z30.1, z30.2)))
 (loopM (σ := Int) (X := (Unit) ⊕ (Bool × Bool)) (fun s31 =>
 (if (decide (s31 < ((a0.length : Nat) : Int))) then
 (let j32 : Unit -> Option _ := fun s33 =>
 (some (.inl (i64 (s31 + (1 : Int)))))
 chk ((decide ((0 : Int) <= s31)) && (decide (s31 < ((a0.length : Nat) : Int)))) <|
 let v34 : (Int) × (Int) × List UInt8 := (a0.getD (Int.toNat s31) (0, (0, [])))
 chk (!(decide (v34.1 = (3 : Int))) || ((decide ((0 : Int) <= s31)) && (decide (s31 < ((a1.length : Nat) : Int))))) <|
 let v35 : Bool := (if (decide (v34.1 = (3 : Int))) then (!decide ((a1.getD (Int.toNat s31) 0) = (0 : Int))) else false)
 chk (!((!v35) && (!decide (v34.1 = (3 : Int)))) || ((decide ((0 : Int) <= s31)) && (decide (s31 < ((a1.length : Nat) : Int))))) <|
 (if ((!v35) && (!decide (v34.1 = (3 : Int)))) then spec_l1In (a1.getD (Int.toNat s31) 0) s31 (i64 (((a0.length : Nat) : Int) - (1 : Int))) else some false).bind fun r36 =>
 let v37 : Bool := (if (!decide (v34.1 = (3 : Int))) then (!r36) else false)
 let v38 : Bool := (if v35 then true else v37)
 if v38 then
 (some (.inr (.inr (false, false))))
 else
 j32 ())
 else
 some (.inr (.inl ())))) (0 : Int)).bind fun x39 =>
 sumE x39 (fun y40 =>
 j2 ()) (fun z41 =>
 some (z41.1, z41.2))
noncomputable def impl_txnsOf (a0 : List ((Int) × (Int) × List UInt8)) : Option (List (Int)) :=
 ((loopM (σ := (List (Int)) × Int) (X := List (Int)) (fun s0 =>
 (if (decide (s0.2 < ((a0.length : Nat) : Int))) then
 ((chk ((decide ((0 : Int) <= s0.2)) && (decide (s0.2 < ((a0.length : Nat) : Int)))) <|
 let v1 : (Int) × (Int) × List UInt8 := (a0.getD (Int.toNat s0.2) (0, (0, [])))
 (if (decide (v1.1 = (3 : Int))) then
 (let v2 : List (Int) := (v1.2.1 :: ([] : List (Int)))
 let v3 : List (Int) := (s0.1 ++ v2)
 chk (decide (((v3.length : Nat) : Int) <= (17592186044416 : Int))) <|
 some v3 : Option (List (Int)))
 else
 (some s0.1)).bind fun s4 =>
 some s4 : Option (List (Int))).bind fun s5 =>
 some (.inl (s5, (i64 (s0.2 + (1 : Int))))))
 else
 some (.inr s0.1))) (([] : List (Int)), (0 : Int))).bind fun x6 =>
 some x6 : Option (List (Int))).bind fun s7 =>
 (slices_Sort__int_int s7).bind fun r8 =>
 some r8
noncomputable def impl_sortPairs_1 (a0 : Int) (a1 : Int) (a2 : Int) (a3 : Int) : Option (Int) :=
 (cmp_Compare_int a0 a2).bind fun r0 =>
 (cmp_Compare_int a1 a3).bind fun r1 =>
 let v2 : List (Int) := (r0 :: (r1 :: ([] : List (Int))))
 (cmp_Or_int v2).bind fun r3 =>
 some r3
noncomputable def slices_insertionSortCmpFunc_impl_Pair (a0 : List ((Int) × Int)) (a1 : Int) (a2 : Int) : Option (List ((Int) × Int)) :=
 ((loopM (σ := (List ((Int) × Int)) × Int) (X := List ((Int) × Int)) (fun s0 =>
 (if (decide (s0.2 < a2)) then
 ((((loopM (σ := (List ((Int) × Int)) × Int) (X := List ((Int) × Int)) (fun s1 =>
 (chk (!(decide (a1 < s1.2)) || ((decide ((0 : Int) <= s1.2)) && (decide (s1.2 < ((s1.1.length : Nat) : Int))))) <|
 let v2 : (Int) × Int := (s1.1.getD (Int.toNat s1.2) (0, 0))
 chk (!(decide (a1 < s1.2)) || ((decide ((0 : Int) <= (i64 (s1.2 - (1 : Int))))) && (decide ((i64 (s1.2 - (1 : Int))) < ((s1.1.length : Nat) : Int))))) <|
 let v3 : (Int) × Int := (s1.1.getD (Int.toNat (i64 (s1.2 - (1 : Int)))) (0, 0))
 (if (decide (a1 < s1.2)) then impl_sortPairs_1 v2.1 v2.2 v3.1 v3.2 else some 0).bind fun r4 =>
 let v5 : Bool := (if (decide (a1 < s1.2)) then (decide (r4 < (0 : Int))) else false)
 if v5 then
 ((chk ((decide ((0 : Int) <= (i64 (s1.2 - (1 : Int))))) && (decide ((i64 (s1.2 - (1 : Int))) < ((s1.1.length : Nat) : Int)))) <|
 let v6 : (Int) × Int := (s1.1.getD (Int.toNat (i64 (s1.2 - (1 : Int)))) (0, 0))
 chk ((decide ((0 : Int) <= s1.2)) && (decide (s1.2 < ((s1.1.length : Nat) : Int)))) <|
 let v7 : (Int) × Int := (s1.1.getD (Int.toNat s1.2) (0, 0))
 chk ((decide ((0 : Int) <= s1.2)) && (decide (s1.2 < ((s1.1.length : Nat) : Int)))) <|
 let v8 : List ((Int) × Int) := (s1.1.set (Int.toNat s1.2) (v6.1, v6.2))
 chk ((decide ((0 : Int) <= (i64 (s1.2 - (1 : Int))))) && (decide ((i64 (s1.2 - (1 : Int))) < ((v8.length : Nat) : Int)))) <|
 let v9 : List ((Int) × Int) := (v8.set (Int.toNat (i64 (s1.2 - (1 : Int)))) (v7.1, v7.2))
 some v9 : Option (List ((Int) × Int))).bind fun s10 =>
 some (.inl (s10, (i64 (s1.2 - (1 : Int))))))
 else
 some (.inr s1.1))) (s0.1, s0.2)).bind fun x11 =>
 some x11 : Option (List ((Int) × Int))).bind fun s12 =>
 some s12 : Option (List ((Int) × Int))).bind fun s13 =>
 some (.inl (s13, (i64 (s0.2 + (1 : Int))))))
 else
 some (.inr s0.1))) (a0, (i64 (a1 + (1 : Int))))).bind fun x14 =>
 some x14 : Option (List ((Int) × Int))).bind fun s15 =>
 some s15
noncomputable def slices_siftDownCmpFunc_impl_Pair (a0 : List ((Int) × Int)) (a1 : Int) (a2 : Int) (a3 : Int) : Option (List ((Int) × Int)) :=
 let j0 : List ((Int) × Int) -> Option _ := fun s1 =>
 (some s1)
 (loopM (σ := (List ((Int) × Int)) × Int) (X := (List ((Int) × Int)) ⊕ (List ((Int) × Int))) (fun s2 =>
 (let j3 : (List ((Int) × Int)) × Int -> Option _ := fun s4 =>
 (some (.inl (s4.1, s4.2)))
 if (decide (a2 <= (i64 ((i64 ((2 : Int) * s2.2)) + (1 : Int))))) then
 (some (.inr (.inl s2.1)))
 else
 chk (!(decide ((i64 ((i64 ((i64 ((2 : Int) * s2.2)) + (1 : Int))) + (1 : Int))) < a2)) || ((decide ((0 : Int) <= (i64 (a3 + (i64 ((i64 ((2 : Int) * s2.2)) + (1 : Int))))))) && (decide ((i64 (a3 + (i64 ((i64 ((2 : Int) * s2.2)) + (1 : Int))))) < ((s2.1.length : Nat) : Int))))) <|
 let v5 : (Int) × Int := (s2.1.getD (Int.toNat (i64 (a3 + (i64 ((i64 ((2 : Int) * s2.2)) + (1 : Int)))))) (0, 0))
 chk (!(decide ((i64 ((i64 ((i64 ((2 : Int) * s2.2)) + (1 : Int))) + (1 : Int))) < a2)) || ((decide ((0 : Int) <= (i64 ((i64 (a3 + (i64 ((i64 ((2 : Int) * s2.2)) + (1 : Int))))) + (1 : Int))))) && (decide ((i64 ((i64 (a3 + (i64 ((i64 ((2 : Int) * s2.2)) + (1 : Int))))) + (1 : Int))) < ((s2.1.length : Nat) : Int))))) <|
 let v6 : (Int) × Int := (s2.1.getD (Int.toNat (i64 ((i64 (a3 + (i64 ((i64 ((2 : Int) * s2.2)) + (1 : Int))))) + (1 : Int)))) (0, 0))
 (if (decide ((i64 ((i64 ((i64 ((2 : Int) * s2.2)) + (1 : Int))) + (1 : Int))) < a2)) then impl_sortPairs_1 v5.1 v5.2 v6.1 v6.2 else some 0).bind fun r7 =>
 let v8 : Bool := (if (decide ((i64 ((i64 ((i64 ((2 : Int) * s2.2)) + (1 : Int))) + (1 : Int))) < a2)) then (decide (r7 < (0 : Int))) else false)
 (if v8 then
 (some (i64 ((i64 ((i64 ((2 : Int) * s2.2)) + (1 : Int))) + (1 : Int))) : Option (Int))
 else
 (some (i64 ((i64 ((2 : Int) * s2.2)) + (1 : Int))))).bind fun s9 =>
 chk ((decide ((0 : Int) <= (i64 (a3 + s2.2)))) && (decide ((i64 (a3 + s2.2)) < ((s2.1.length : Nat) : Int)))) <|
 let v10 : (Int) × Int := (s2.1.getD (Int.toNat (i64 (a3 + s2.2))) (0, 0))
 chk ((decide ((0 : Int) <= (i64 (a3 + s9)))) && (decide ((i64 (a3 + s9)) < ((s2.1.length : Nat) : Int)))) <|
 let v11 : (Int) × Int := (s2.1.getD (Int.toNat (i64 (a3 + s9))) (0, 0))
 (impl_sortPairs_1 v10.1 v10.2 v11.1 v11.2).bind fun r12 =>
 if (!(decide (r12 < (0 : Int)))) then
 (some (.inr (.inr s2.1)))
 else
 chk ((decide ((0 : Int) <= (i64 (a3 + s9)))) && (decide ((i64 (a3 + s9)) < ((s2.1.length : Nat) : Int)))) <|
 let v13 : (Int) × Int := (s2.1.getD (Int.toNat (i64 (a3 + s9))) (0, 0))
 chk ((decide ((0 : Int) <= (i64 (a3 + s2.2)))) && (decide ((i64 (a3 + s2.2)) < ((s2.1.length : Nat) : Int)))) <|
 let v14 : (Int) × Int := (s2.1.getD (Int.toNat (i64 (a3 + s2.2))) (0, 0))
 chk ((decide ((0 : Int) <= (i64 (a3 + s2.2)))) && (decide ((i64 (a3 + s2.2)) < ((s2.1.length : Nat) : Int)))) <|
 let v15 : List ((Int) × Int) := (s2.1.set (Int.toNat (i64 (a3 + s2.2))) (v13.1, v13.2))
 chk ((decide ((0 : Int) <= (i64 (a3 + s9)))) && (decide ((i64 (a3 + s9)) < ((v15.length : Nat) : Int)))) <|
 let v16 : List ((Int) × Int) := (v15.set (Int.toNat (i64 (a3 + s9))) (v14.1, v14.2))
 j3 (v16, s9))) (a0, a1)).bind fun x17 =>
 sumE x17 (fun y18 =>
 j0 y18) (fun z19 =>
 some z19)
noncomputable def slices_heapSortCmpFunc_impl_Pair (a0 : List ((Int) × Int)) (a1 : Int) (a2 : Int) : Option (List ((Int) × Int)) :=
 ((loopM (σ := (List ((Int) × Int)) × Int) (X := List ((Int) × Int)) (fun s0 =>
 (if (decide ((0 : Int) <= s0.2)) then
 (((slices_siftDownCmpFunc_impl_Pair s0.1 s0.2 (i64 (a2 - a1)) a1).bind fun r1 =>
 some r1 : Option (List ((Int) × Int))).bind fun s2 =>
 some (.inl (s2, (i64 (s0.2 - (1 : Int))))))
 else
 some (.inr s0.1))) (a0, (i64 (Int.tdiv (i64 ((i64 (a2 - a1)) - (1 : Int))) (2 : Int))))).bind fun x3 =>
 some x3 : Option (List ((Int) × Int))).bind fun s4 =>
 ((loopM (σ := (List ((Int) × Int)) × Int) (X := List ((Int) × Int)) (fun s5 =>
 (if (decide ((0 : Int) <= s5.2)) then
 ((chk ((decide ((0 : Int) <= (i64 (a1 + s5.2)))) && (decide ((i64 (a1 + s5.2)) < ((s5.1.length : Nat) : Int)))) <|
 let v6 : (Int) × Int := (s5.1.getD (Int.toNat (i64 (a1 + s5.2))) (0, 0))
 chk ((decide ((0 : Int) <= a1)) && (decide (a1 < ((s5.1.length : Nat) : Int)))) <|
 let v7 : (Int) × Int := (s5.1.getD (Int.toNat a1) (0, 0))
 chk ((decide ((0 : Int) <= a1)) && (decide (a1 < ((s5.1.length : Nat) : Int)))) <|
 let v8 : List ((Int) × Int) := (s5.1.set (Int.toNat a1) (v6.1, v6.2))
 chk ((decide ((0 : Int) <= (i64 (a1 + s5.2)))) && (decide ((i64 (a1 + s5.2)) < ((v8.length : Nat) : Int)))) <|
 let v9 : List ((Int) × Int) := (v8.set (Int.toNat (i64 (a1 + s5.2))) (v7.1, v7.2))
 (slices_siftDownCmpFunc_impl_Pair v9 (0 : Int) s5.2 a1).bind fun r10 =>
 some r10 : Option (List ((Int) × Int))).bind fun s11 =>
 some (.inl (s11, (i64 (s5.2 - (1 : Int))))))
 else
 some (.inr s5.1))) (s4, (i64 ((i64 (a2 - a1)) - (1 : Int))))).bind fun x12 =>
 some x12 : Option (List ((Int) × Int))).bind fun s13 =>
 some s13
noncomputable def slices_nextPowerOfTwo (a0 : Int) : Option (Int) :=
 (math_bits_Len (u64 a0)).bind fun r0 =>
 chk (decide ((0 : Int) <= r0)) <|
 some (shls .u64 (1 : Int) r0)
noncomputable def slices_xorshift_Next (a0 : Int) : Option (Int) :=
 some (xors .u64 (xors .u64 (xors .u64 a0 (shls .u64 a0 (13 : Int))) (shrs .u64 (xors .u64 a0 (shls .u64 a0 (13 : Int))) (7 : Int))) (shls .u64 (xors .u64 (xors .u64 a0 (shls .u64 a0 (13 : Int))) (shrs .u64 (xors .u64 a0 (shls .u64 a0 (13 : Int))) (7 : Int))) (17 : Int)))
noncomputable def slices_breakPatternsCmpFunc_impl_Pair (a0 : List ((Int) × Int)) (a1 : Int) (a2 : Int) : Option (List ((Int) × Int)) :=
 (if (decide ((8 : Int) <= (i64 (a2 - a1)))) then
 ((slices_nextPowerOfTwo (i64 (a2 - a1))).bind fun r0 =>
 ((loopM (σ := (List ((Int) × Int)) × Int × Int) (X := List ((Int) × Int)) (fun s1 =>
 (if (decide (s1.2.2 <= (i64 ((i64 (a1 + (i64 ((i64 (Int.tdiv (i64 (a2 - a1)) (4 : Int))) * (2 : Int))))) + (1 : Int))))) then
 (((slices_xorshift_Next s1.2.1).bind fun r2 =>
 (if (decide ((i64 (a2 - a1)) <= (i64 (ands .u64 r2 (u64 (r0 - (1 : Int))))))) then
 (some (i64 ((i64 (ands .u64 r2 (u64 (r0 - (1 : Int))))) - (i64 (a2 - a1)))) : Option (Int))
 else
 (some (i64 (ands .u64 r2 (u64 (r0 - (1 : Int))))))).bind fun s3 =>
 chk ((decide ((0 : Int) <= (i64 (a1 + s3)))) && (decide ((i64 (a1 + s3)) < ((s1.1.length : Nat) : Int)))) <|
 let v4 : (Int) × Int := (s1.1.getD (Int.toNat (i64 (a1 + s3))) (0, 0))
 chk ((decide ((0 : Int) <= s1.2.2)) && (decide (s1.2.2 < ((s1.1.length : Nat) : Int)))) <|
 let v5 : (Int) × Int := (s1.1.getD (Int.toNat s1.2.2) (0, 0))
 chk ((decide ((0 : Int) <= s1.2.2)) && (decide (s1.2.2 < ((s1.1.length : Nat) : Int)))) <|
 let v6 : List ((Int) × Int) := (s1.1.set (Int.toNat s1.2.2) (v4.1, v4.2))
 chk ((decide ((0 : Int) <= (i64 (a1 + s3)))) && (decide ((i64 (a1 + s3)) < ((v6.length : Nat) : Int)))) <|
 let v7 : List ((Int) × Int) := (v6.set (Int.toNat (i64 (a1 + s3))) (v5.1, v5.2))
 some (v7, r2) : Option ((List ((Int) × Int)) × Int)).bind fun s8 =>
 some (.inl (s8.1, s8.2, (i64 (s1.2.2 + (1 : Int))))))
 else
 some (.inr s1.1))) (a0, (u64 (i64 (a2 - a1))), (i64 ((i64 (a1 + (i64 ((i64 (Int.tdiv (i64 (a2 - a1)) (4 : Int))) * (2 : Int))))) - (1 : Int))))).bind fun x9 =>
 some x9 : Option (List ((Int) × Int))).bind fun s10 =>
 some s10 : Option (List ((Int) × Int)))
 else
 (some a0)).bind fun s11 =>
 some s11
noncomputable def slices_order2CmpFunc_impl_Pair (a0 : List ((Int) × Int)) (a1 : Int) (a2 : Int) (a3 : Int) : Option (Int × Int × Int) :=
 chk ((decide ((0 : Int) <= a2)) && (decide (a2 < ((a0.length : Nat) : Int)))) <|
 let v0 : (Int) × Int := (a0.getD (Int.toNat a2) (0, 0))
 chk ((decide ((0 : Int) <= a1)) && (decide (a1 < ((a0.length : Nat) : Int)))) <|
 let v1 : (Int) × Int := (a0.getD (Int.toNat a1) (0, 0))
 (impl_sortPairs_1 v0.1 v0.2 v1.1 v1.2).bind fun r2 =>
 if (decide (r2 < (0 : Int))) then
 (some ((i64 (a3 + (1 : Int))), a2, a1))
 else
 some (a3, a1, a2)
noncomputable def slices_medianCmpFunc_impl_Pair (a0 : List ((Int) × Int)) (a1 : Int) (a2 : Int) (a3 : Int) (a4 : Int) : Option (Int × Int) :=
 (slices_order2CmpFunc_impl_Pair a0 a1 a2 a4).bind fun r0 =>
 (slices_order2CmpFunc_impl_Pair a0 r0.2.2 a3 r0.1).bind fun r1 =>
 (slices_order2CmpFunc_impl_Pair a0 r0.2.1 r1.2.1 r1.1).bind fun r2 =>
 some (r2.1, r2.2.2)
noncomputable def slices_medianAdjacentCmpFunc_impl_Pair (a0 : List ((Int) × Int)) (a1 : Int) (a2 : Int) : Option (Int × Int) :=
 (slices_medianCmpFunc_impl_Pair a0 (i64 (a1 - (1 : Int))) a1 (i64 (a1 + (1 : Int))) a2).bind fun r0 =>
 some (r0.1, r0.2)
noncomputable def slices_choosePivotCmpFunc_impl_Pair (a0 : List ((Int) × Int)) (a1 : Int) (a2 : Int) : Option (Int × Int) :=
 (if (decide ((8 : Int) <= (i64 (a2 - a1)))) then
 ((if (decide ((50 : Int) <= (i64 (a2 - a1)))) then
 ((slices_medianAdjacentCmpFunc_impl_Pair a0 (i64 (a1 + (i64 ((i64 (Int.tdiv (i64 (a2 - a1)) (4 : Int))) * (1 : Int))))) (0 : Int)).bind fun r0 =>
 (slices_medianAdjacentCmpFunc_impl_Pair a0 (i64 (a1 + (i64 ((i64 (Int.tdiv (i64 (a2 - a1)) (4 : Int))) * (2 : Int))))) r0.1).bind fun r1 =>
 (slices_medianAdjacentCmpFunc_impl_Pair a0 (i64 (a1 + (i64 ((i64 (Int.tdiv (i64 (a2 - a1)) (4 : Int))) * (3 : Int))))) r1.1).bind fun r2 =>
 some (r2.1, r0.2, r1.2, r2.2) : Option (Int × Int × Int × Int))
 else
 (some ((0 : Int), (i64 (a1 + (i64 ((i64 (Int.tdiv (i64 (a2 - a1)) (4 : Int))) * (1 : Int))))), (i64 (a1 + (i64 ((i64 (Int.tdiv (i64 (a2 - a1)) (4 : Int))) * (2 : Int))))), (i64 (a1 + (i64 ((i64 (Int.tdiv (i64 (a2 - a1)) (4 : Int))) * (3 : Int)))))))).bind fun s3 =>
 (slices_medianCmpFunc_impl_Pair a0 s3.2.1 s3.2.2.1 s3.2.2.2 s3.1).bind fun r4 =>
 some (r4.1, r4.2) : Option (Int × Int))
 else
 (some ((0 : Int), (i64 (a1 + (i64 ((i64 (Int.tdiv (i64 (a2 - a1)) (4 : Int))) * (2 : Int)))))))).bind fun s5 =>
 if (decide (s5.1 = (0 : Int))) then
 (some (s5.2, (1 : Int)))
 else
 if (decide (s5.1 = (12 : Int))) then
 (some (s5.2, (2 : Int)))
 else
 some (s5.2, (0 : Int))
noncomputable def slices_reverseRangeCmpFunc_impl_Pair (a0 : List ((Int) × Int)) (a1 : Int) (a2 : Int) : Option (List ((Int) × Int)) :=
 ((loopM (σ := (List ((Int) × Int)) × Int × Int) (X := List ((Int) × Int)) (fun s0 =>
 (if (decide (s0.2.1 < s0.2.2)) then
 ((chk ((decide ((0 : Int) <= s0.2.2)) && (decide (s0.2.2 < ((s0.1.length : Nat) : Int)))) <|
 let v1 : (Int) × Int := (s0.1.getD (Int.toNat s0.2.2) (0, 0))
 chk ((decide ((0 : Int) <= s0.2.1)) && (decide (s0.2.1 < ((s0.1.length : Nat) : Int)))) <|
 let v2 : (Int) × Int := (s0.1.getD (Int.toNat s0.2.1) (0, 0))
 chk ((decide ((0 : Int) <= s0.2.1)) && (decide (s0.2.1 < ((s0.1.length : Nat) : Int)))) <|
 let v3 : List ((Int) × Int) := (s0.1.set (Int.toNat s0.2.1) (v1.1, v1.2))
 chk ((decide ((0 : Int) <= s0.2.2)) && (decide (s0.2.2 < ((v3.length : Nat) : Int)))) <|
 let v4 : List ((Int) × Int) := (v3.set (Int.toNat s0.2.2) (v2.1, v2.2))
 some v4 : Option (List ((Int) × Int))).bind fun s5 =>
 some (.inl (s5, (i64 (s0.2.1 + (1 : Int))), (i64 (s0.2.2 - (1 : Int))))))
 else
 some (.inr s0.1))) (a0, a1, (i64 (a2 - (1 : Int))))).bind fun x6 =>
 some x6 : Option (List ((Int) × Int))).bind fun s7 =>
 some s7
noncomputable def slices_partialInsertionSortCmpFunc_impl_Pair (a0 : List ((Int) × Int)) (a1 : Int) (a2 : Int) : Option ((List ((Int) × Int)) × Bool) :=
 let j0 : List ((Int) × Int) -> Option _ := fun s1 =>
 (some (s1, false))
 (loopM (σ := (List ((Int) × Int)) × Int × Int) (X := (List ((Int) × Int)) ⊕ ((List ((Int) × Int)) × Bool)) (fun s2 =>
 (if (decide (s2.2.2 < (5 : Int))) then
 (let j3 : (List ((Int) × Int)) × Int -> Option _ := fun s4 =>
 (some (.inl (s4.1, s4.2, (i64 (s2.2.2 + (1 : Int))))))
 ((loopM (σ := Int) (X := Int) (fun s5 =>
 (chk (!(decide (s5 < a2)) || ((decide ((0 : Int) <= s5)) && (decide (s5 < ((s2.1.length : Nat) : Int))))) <|
 let v6 : (Int) × Int := (s2.1.getD (Int.toNat s5) (0, 0))
 chk (!(decide (s5 < a2)) || ((decide ((0 : Int) <= (i64 (s5 - (1 : Int))))) && (decide ((i64 (s5 - (1 : Int))) < ((s2.1.length : Nat) : Int))))) <|
 let v7 : (Int) × Int := (s2.1.getD (Int.toNat (i64 (s5 - (1 : Int)))) (0, 0))
 (if (decide (s5 < a2)) then impl_sortPairs_1 v6.1 v6.2 v7.1 v7.2 else some 0).bind fun r8 =>
 let v9 : Bool := (if (decide (s5 < a2)) then (!(decide (r8 < (0 : Int)))) else false)
 if v9 then
 ((some () : Option (Unit)).bind fun s10 =>
 some (.inl (i64 (s5 + (1 : Int)))))
 else
 some (.inr s5))) s2.2.1).bind fun x11 =>
 some x11 : Option (Int)).bind fun s12 =>
 if (decide (s12 = a2)) then
 (some (.inr (.inr (s2.1, true))))
 else
 if (decide ((i64 (a2 - a1)) < (50 : Int))) then
 (some (.inr (.inr (s2.1, false))))
 else
 chk ((decide ((0 : Int) <= (i64 (s12 - (1 : Int))))) && (decide ((i64 (s12 - (1 : Int))) < ((s2.1.length : Nat) : Int)))) <|
 let v13 : (Int) × Int := (s2.1.getD (Int.toNat (i64 (s12 - (1 : Int)))) (0, 0))
 chk ((decide ((0 : Int) <= s12)) && (decide (s12 < ((s2.1.length : Nat) : Int)))) <|
 let v14 : (Int) × Int := (s2.1.getD (Int.toNat s12) (0, 0))
 chk ((decide ((0 : Int) <= s12)) && (decide (s12 < ((s2.1.length : Nat) : Int)))) <|
 let v15 : List ((Int) × Int) := (s2.1.set (Int.toNat s12) (v13.1, v13.2))
 chk ((decide ((0 : Int) <= (i64 (s12 - (1 : Int))))) && (decide ((i64 (s12 - (1 : Int))) < ((v15.length : Nat) : Int)))) <|
 let v16 : List ((Int) × Int) := (v15.set (Int.toNat (i64 (s12 - (1 : Int)))) (v14.1, v14.2))
 (if (decide ((2 : Int) <= (i64 (s12 - a1)))) then
 (((loopM (σ := (List ((Int) × Int)) × Int) (X := List ((Int) × Int)) (fun s17 =>
 (if (decide ((1 : Int) <= s17.2)) then
 (let j18 : List ((Int) × Int) -> Option _ := fun s19 =>
 (some (.inl (s19, (i64 (s17.2 - (1 : Int))))))
 chk ((decide ((0 : Int) <= s17.2)) && (decide (s17.2 < ((s17.1.length : Nat) : Int)))) <|
 let v20 : (Int) × Int := (s17.1.getD (Int.toNat s17.2) (0, 0))
 chk ((decide ((0 : Int) <= (i64 (s17.2 - (1 : Int))))) && (decide ((i64 (s17.2 - (1 : Int))) < ((s17.1.length : Nat) : Int)))) <|
 let v21 : (Int) × Int := (s17.1.getD (Int.toNat (i64 (s17.2 - (1 : Int)))) (0, 0))
 (impl_sortPairs_1 v20.1 v20.2 v21.1 v21.2).bind fun r22 =>
 if (!(decide (r22 < (0 : Int)))) then
 (some (.inr s17.1))
 else
 chk ((decide ((0 : Int) <= (i64 (s17.2 - (1 : Int))))) && (decide ((i64 (s17.2 - (1 : Int))) < ((s17.1.length : Nat) : Int)))) <|
 let v23 : (Int) × Int := (s17.1.getD (Int.toNat (i64 (s17.2 - (1 : Int)))) (0, 0))
 chk ((decide ((0 : Int) <= s17.2)) && (decide (s17.2 < ((s17.1.length : Nat) : Int)))) <|
 let v24 : (Int) × Int := (s17.1.getD (Int.toNat s17.2) (0, 0))
 chk ((decide ((0 : Int) <= s17.2)) && (decide (s17.2 < ((s17.1.length : Nat) : Int)))) <|
 let v25 : List ((Int) × Int) := (s17.1.set (Int.toNat s17.2) (v23.1, v23.2))
 chk ((decide ((0 : Int) <= (i64 (s17.2 - (1 : Int))))) && (decide ((i64 (s17.2 - (1 : Int))) < ((v25.length : Nat) : Int)))) <|
 let v26 : List ((Int) × Int) := (v25.set (Int.toNat (i64 (s17.2 - (1 : Int)))) (v24.1, v24.2))
 j18 v26)
 else
 some (.inr s17.1))) (v16, (i64 (s12 - (1 : Int))))).bind fun x27 =>
 some x27 : Option (List ((Int) × Int))).bind fun s28 =>
 some s28 : Option (List ((Int) × Int)))
 else
 (some v16)).bind fun s29 =>
 (if (decide ((2 : Int) <= (i64 (a2 - s12)))) then
 (((loopM (σ := (List ((Int) × Int)) × Int) (X := List ((Int) × Int)) (fun s30 =>
 (if (decide (s30.2 < a2)) then
 (let j31 : List ((Int) × Int) -> Option _ := fun s32 =>
 (some (.inl (s32, (i64 (s30.2 + (1 : Int))))))
 chk ((decide ((0 : Int) <= s30.2)) && (decide (s30.2 < ((s30.1.length : Nat) : Int)))) <|
 let v33 : (Int) × Int := (s30.1.getD (Int.toNat s30.2) (0, 0))
 chk ((decide ((0 : Int) <= (i64 (s30.2 - (1 : Int))))) && (decide ((i64 (s30.2 - (1 : Int))) < ((s30.1.length : Nat) : Int)))) <|
 let v34 : (Int) × Int := (s30.1.getD (Int.toNat (i64 (s30.2 - (1 : Int)))) (0, 0))
 (impl_sortPairs_1 v33.1 v33.2 v34.1 v34.2).bind fun r35 =>
 if (!(decide (r35 < (0 : Int)))) then
 (some (.inr s30.1))
 else
 chk ((decide ((0 : Int) <= (i64 (s30.2 - (1 : Int))))) && (decide ((i64 (s30.2 - (1 : Int))) < ((s30.1.length : Nat) : Int)))) <|
 let v36 : (Int) × Int := (s30.1.getD (Int.toNat (i64 (s30.2 - (1 : Int)))) (0, 0))
 chk ((decide ((0 : Int) <= s30.2)) && (decide (s30.2 < ((s30.1.length : Nat) : Int)))) <|
 let v37 : (Int) × Int := (s30.1.getD (Int.toNat s30.2) (0, 0))
 chk ((decide ((0 : Int) <= s30.2)) && (decide (s30.2 < ((s30.1.length : Nat) : Int)))) <|
 let v38 : List ((Int) × Int) := (s30.1.set (Int.toNat s30.2) (v36.1, v36.2))
 chk ((decide ((0 : Int) <= (i64 (s30.2 - (1 : Int))))) && (decide ((i64 (s30.2 - (1 : Int))) < ((v38.length : Nat) : Int)))) <|
 let v39 : List ((Int) × Int) := (v38.set (Int.toNat (i64 (s30.2 - (1 : Int)))) (v37.1, v37.2))
 j31 v39)
 else
 some (.inr s30.1))) (s29, (i64 (s12 + (1 : Int))))).bind fun x40 =>
 some x40 : Option (List ((Int) × Int))).bind fun s41 =>
 some s41 : Option (List ((Int) × Int)))
 else
 (some s29)).bind fun s42 =>
 j3 (s42, s12))
 else
 some (.inr (.inl s2.1)))) (a0, (i64 (a1 + (1 : Int))), (0 : Int))).bind fun x43 =>
 sumE x43 (fun y44 =>
 j0 y44) (fun z45 =>
 some (z45.1, z45.2))
noncomputable def slices_partitionEqualCmpFunc_impl_Pair (a0 : List ((Int) × Int)) (a1 : Int) (a2 : Int) (a3 : Int) : Option ((List ((Int) × Int)) × Int) :=
 chk ((decide ((0 : Int) <= a3)) && (decide (a3 < ((a0.length : Nat) : Int)))) <|
 let v0 : (Int) × Int := (a0.getD (Int.toNat a3) (0, 0))
 chk ((decide ((0 : Int) <= a1)) && (decide (a1 < ((a0.length : Nat) : Int)))) <|
 let v1 : (Int) × Int := (a0.getD (Int.toNat a1) (0, 0))
 chk ((decide ((0 : Int) <= a1)) && (decide (a1 < ((a0.length : Nat) : Int)))) <|
 let v2 : List ((Int) × Int) := (a0.set (Int.toNat a1) (v0.1, v0.2))
 chk ((decide ((0 : Int) <= a3)) && (decide (a3 < ((v2.length : Nat) : Int)))) <|
 let v3 : List ((Int) × Int) := (v2.set (Int.toNat a3) (v1.1, v1.2))
 ((loopM (σ := (List ((Int) × Int)) × Int × Int) (X := (List ((Int) × Int)) × Int) (fun s4 =>
 (let j5 : (List ((Int) × Int)) × Int × Int -> Option _ := fun s6 =>
 (some (.inl (s6.1, s6.2.1, s6.2.2)))
 ((loopM (σ := Int) (X := Int) (fun s7 =>
 (chk (!(decide (s7 <= s4.2.2)) || ((decide ((0 : Int) <= a1)) && (decide (a1 < ((s4.1.length : Nat) : Int))))) <|
 let v8 : (Int) × Int := (s4.1.getD (Int.toNat a1) (0, 0))
 chk (!(decide (s7 <= s4.2.2)) || ((decide ((0 : Int) <= s7)) && (decide (s7 < ((s4.1.length : Nat) : Int))))) <|
 let v9 : (Int) × Int := (s4.1.getD (Int.toNat s7) (0, 0))
 (if (decide (s7 <= s4.2.2)) then impl_sortPairs_1 v8.1 v8.2 v9.1 v9.2 else some 0).bind fun r10 =>
 let v11 : Bool := (if (decide (s7 <= s4.2.2)) then (!(decide (r10 < (0 : Int)))) else false)
 if v11 then
 ((some () : Option (Unit)).bind fun s12 =>
 some (.inl (i64 (s7 + (1 : Int)))))
 else
 some (.inr s7))) s4.2.1).bind fun x13 =>
 some x13 : Option (Int)).bind fun s14 =>
 ((loopM (σ := Int) (X := Int) (fun s15 =>
 (chk (!(decide (s14 <= s15)) || ((decide ((0 : Int) <= a1)) && (decide (a1 < ((s4.1.length : Nat) : Int))))) <|
 let v16 : (Int) × Int := (s4.1.getD (Int.toNat a1) (0, 0))
 chk (!(decide (s14 <= s15)) || ((decide ((0 : Int) <= s15)) && (decide (s15 < ((s4.1.length : Nat) : Int))))) <|
 let v17 : (Int) × Int := (s4.1.getD (Int.toNat s15) (0, 0))
 (if (decide (s14 <= s15)) then impl_sortPairs_1 v16.1 v16.2 v17.1 v17.2 else some 0).bind fun r18 =>
 let v19 : Bool := (if (decide (s14 <= s15)) then (decide (r18 < (0 : Int))) else false)
 if v19 then
 ((some () : Option (Unit)).bind fun s20 =>
 some (.inl (i64 (s15 - (1 : Int)))))
 else
 some (.inr s15))) s4.2.2).bind fun x21 =>
 some x21 : Option (Int)).bind fun s22 =>
 if (decide (s22 < s14)) then
 (some (.inr (s4.1, s14)))
 else
 chk ((decide ((0 : Int) <= s22)) && (decide (s22 < ((s4.1.length : Nat) : Int)))) <|
 let v23 : (Int) × Int := (s4.1.getD (Int.toNat s22) (0, 0))
 chk ((decide ((0 : Int) <= s14)) && (decide (s14 < ((s4.1.length : Nat) : Int)))) <|
 let v24 : (Int) × Int := (s4.1.getD (Int.toNat s14) (0, 0))
 chk ((decide ((0 : Int) <= s14)) && (decide (s14 < ((s4.1.length : Nat) : Int)))) <|
 let v25 : List ((Int) × Int) := (s4.1.set (Int.toNat s14) (v23.1, v23.2))
 chk ((decide ((0 : Int) <= s22)) && (decide (s22 < ((v25.length : Nat) : Int)))) <|
 let v26 : List ((Int) × Int) := (v25.set (Int.toNat s22) (v24.1, v24.2))
 j5 (v26, (i64 (s14 + (1 : Int))), (i64 (s22 - (1 : Int)))))) (v3, (i64 (a1 + (1 : Int))), (i64 (a2 - (1 : Int))))).bind fun x27 =>
 some (x27.1, x27.2) : Option ((List ((Int) × Int)) × Int)).bind fun s28 =>
 some (s28.1, s28.2)
noncomputable def slices_partitionCmpFunc_impl_Pair (a0 : List ((Int) × Int)) (a1 : Int) (a2 : Int) (a3 : Int) : Option ((List ((Int) × Int)) × Int × Bool) :=
 chk ((decide ((0 : Int) <= a3)) && (decide (a3 < ((a0.length : Nat) : Int)))) <|
 let v0 : (Int) × Int := (a0.getD (Int.toNat a3) (0, 0))
 chk ((decide ((0 : Int) <= a1)) && (decide (a1 < ((a0.length : Nat) : Int)))) <|
 let v1 : (Int) × Int := (a0.getD (Int.toNat a1) (0, 0))
 chk ((decide ((0 : Int) <= a1)) && (decide (a1 < ((a0.length : Nat) : Int)))) <|
 let v2 : List ((Int) × Int) := (a0.set (Int.toNat a1) (v0.1, v0.2))
 chk ((decide ((0 : Int) <= a3)) && (decide (a3 < ((v2.length : Nat) : Int)))) <|
 let v3 : List ((Int) × Int) := (v2.set (Int.toNat a3) (v1.1, v1.2))
 ((loopM (σ := Int) (X := Int) (fun s4 =>
 (chk (!(decide (s4 <= (i64 (a2 - (1 : Int))))) || ((decide ((0 : Int) <= s4)) && (decide (s4 < ((v3.length : Nat) : Int))))) <|
 let v5 : (Int) × Int := (v3.getD (Int.toNat s4) (0, 0))
 chk (!(decide (s4 <= (i64 (a2 - (1 : Int))))) || ((decide ((0 : Int) <= a1)) && (decide (a1 < ((v3.length : Nat) : Int))))) <|
 let v6 : (Int) × Int := (v3.getD (Int.toNat a1) (0, 0))
 (if (decide (s4 <= (i64 (a2 - (1 : Int))))) then impl_sortPairs_1 v5.1 v5.2 v6.1 v6.2 else some 0).bind fun r7 =>
 let v8 : Bool := (if (decide (s4 <= (i64 (a2 - (1 : Int))))) then (decide (r7 < (0 : Int))) else false)
 if v8 then
 ((some () : Option (Unit)).bind fun s9 =>
 some (.inl (i64 (s4 + (1 : Int)))))
 else
 some (.inr s4))) (i64 (a1 + (1 : Int)))).bind fun x10 =>
 some x10 : Option (Int)).bind fun s11 =>
 ((loopM (σ := Int) (X := Int) (fun s12 =>
 (chk (!(decide (s11 <= s12)) || ((decide ((0 : Int) <= s12)) && (decide (s12 < ((v3.length : Nat) : Int))))) <|
 let v13 : (Int) × Int := (v3.getD (Int.toNat s12) (0, 0))
 chk (!(decide (s11 <= s12)) || ((decide ((0 : Int) <= a1)) && (decide (a1 < ((v3.length : Nat) : Int))))) <|
 let v14 : (Int) × Int := (v3.getD (Int.toNat a1) (0, 0))
 (if (decide (s11 <= s12)) then impl_sortPairs_1 v13.1 v13.2 v14.1 v14.2 else some 0).bind fun r15 =>
 let v16 : Bool := (if (decide (s11 <= s12)) then (!(decide (r15 < (0 : Int)))) else false)
 if v16 then
 ((some () : Option (Unit)).bind fun s17 =>
 some (.inl (i64 (s12 - (1 : Int)))))
 else
 some (.inr s12))) (i64 (a2 - (1 : Int)))).bind fun x18 =>
 some x18 : Option (Int)).bind fun s19 =>
 if (decide (s19 < s11)) then
 (chk ((decide ((0 : Int) <= a1)) && (decide (a1 < ((v3.length : Nat) : Int)))) <|
 let v20 : (Int) × Int := (v3.getD (Int.toNat a1) (0, 0))
 chk ((decide ((0 : Int) <= s19)) && (decide (s19 < ((v3.length : Nat) : Int)))) <|
 let v21 : (Int) × Int := (v3.getD (Int.toNat s19) (0, 0))
 chk ((decide ((0 : Int) <= s19)) && (decide (s19 < ((v3.length : Nat) : Int)))) <|
 let v22 : List ((Int) × Int) := (v3.set (Int.toNat s19) (v20.1, v20.2))
 chk ((decide ((0 : Int) <= a1)) && (decide (a1 < ((v22.length : Nat) : Int)))) <|
 let v23 : List ((Int) × Int) := (v22.set (Int.toNat a1) (v21.1, v21.2))
 some (v23, s19, true))
 else
 chk ((decide ((0 : Int) <= s19)) && (decide (s19 < ((v3.length : Nat) : Int)))) <|
 let v24 : (Int) × Int := (v3.getD (Int.toNat s19) (0, 0))
 chk ((decide ((0 : Int) <= s11)) && (decide (s11 < ((v3.length : Nat) : Int)))) <|
 let v25 : (Int) × Int := (v3.getD (Int.toNat s11) (0, 0))
 chk ((decide ((0 : Int) <= s11)) && (decide (s11 < ((v3.length : Nat) : Int)))) <|
 let v26 : List ((Int) × Int) := (v3.set (Int.toNat s11) (v24.1, v24.2))
 chk ((decide ((0 : Int) <= s19)) && (decide (s19 < ((v26.length : Nat) : Int)))) <|
 let v27 : List ((Int) × Int) := (v26.set (Int.toNat s19) (v25.1, v25.2))
 ((loopM (σ := (List ((Int) × Int)) × Int × Int) (X := (List ((Int) × Int)) × Int) (fun s28 =>
 (let j29 : (List ((Int) × Int)) × Int × Int -> Option _ := fun s30 =>
 (some (.inl (s30.1, s30.2.1, s30.2.2)))
 ((loopM (σ := Int) (X := Int) (fun s31 =>
 (chk (!(decide (s31 <= s28.2.2)) || ((decide ((0 : Int) <= s31)) && (decide (s31 < ((s28.1.length : Nat) : Int))))) <|
 let v32 : (Int) × Int := (s28.1.getD (Int.toNat s31) (0, 0))
 chk (!(decide (s31 <= s28.2.2)) || ((decide ((0 : Int) <= a1)) && (decide (a1 < ((s28.1.length : Nat) : Int))))) <|
 let v33 : (Int) × Int := (s28.1.getD (Int.toNat a1) (0, 0))
 (if (decide (s31 <= s28.2.2)) then impl_sortPairs_1 v32.1 v32.2 v33.1 v33.2 else some 0).bind fun r34 =>
 let v35 : Bool := (if (decide (s31 <= s28.2.2)) then (decide (r34 < (0 : Int))) else false)
 if v35 then
 ((some () : Option (Unit)).bind fun s36 =>
 some (.inl (i64 (s31 + (1 : Int)))))
 else
 some (.inr s31))) s28.2.1).bind fun x37 =>
 some x37 : Option (Int)).bind fun s38 =>
 ((loopM (σ := Int) (X := Int) (fun s39 =>
 (chk (!(decide (s38 <= s39)) || ((decide ((0 : Int) <= s39)) && (decide (s39 < ((s28.1.length : Nat) : Int))))) <|
 let v40 : (Int) × Int := (s28.1.getD (Int.toNat s39) (0, 0))
 chk (!(decide (s38 <= s39)) || ((decide ((0 : Int) <= a1)) && (decide (a1 < ((s28.1.length : Nat) : Int))))) <|
 let v41 : (Int) × Int := (s28.1.getD (Int.toNat a1) (0, 0))
 (if (decide (s38 <= s39)) then impl_sortPairs_1 v40.1 v40.2 v41.1 v41.2 else some 0).bind fun r42 =>
 let v43 : Bool := (if (decide (s38 <= s39)) then (!(decide (r42 < (0 : Int)))) else false)
 if v43 then
 ((some () : Option (Unit)).bind fun s44 =>
 some (.inl (i64 (s39 - (1 : Int)))))
 else
 some (.inr s39))) s28.2.2).bind fun x45 =>
 some x45 : Option (Int)).bind fun s46 =>
 if (decide (s46 < s38)) then
 (some (.inr (s28.1, s46)))
 else
 chk ((decide ((0 : Int) <= s46)) && (decide (s46 < ((s28.1.length : Nat) : Int)))) <|
 let v47 : (Int) × Int := (s28.1.getD (Int.toNat s46) (0, 0))
 chk ((decide ((0 : Int) <= s38)) && (decide (s38 < ((s28.1.length : Nat) : Int)))) <|
 let v48 : (Int) × Int := (s28.1.getD (Int.toNat s38) (0, 0))
 chk ((decide ((0 : Int) <= s38)) && (decide (s38 < ((s28.1.length : Nat) : Int)))) <|
 let v49 : List ((Int) × Int) := (s28.1.set (Int.toNat s38) (v47.1, v47.2))
 chk ((decide ((0 : Int) <= s46)) && (decide (s46 < ((v49.length : Nat) : Int)))) <|
 let v50 : List ((Int) × Int) := (v49.set (Int.toNat s46) (v48.1, v48.2))
 j29 (v50, (i64 (s38 + (1 : Int))), (i64 (s46 - (1 : Int)))))) (v27, (i64 (s11 + (1 : Int))), (i64 (s19 - (1 : Int))))).bind fun x51 =>
 some (x51.1, x51.2) : Option ((List ((Int) × Int)) × Int)).bind fun s52 =>
 chk ((decide ((0 : Int) <= a1)) && (decide (a1 < ((s52.1.length : Nat) : Int)))) <|
 let v53 : (Int) × Int := (s52.1.getD (Int.toNat a1) (0, 0))
 chk ((decide ((0 : Int) <= s52.2)) && (decide (s52.2 < ((s52.1.length : Nat) : Int)))) <|
 let v54 : (Int) × Int := (s52.1.getD (Int.toNat s52.2) (0, 0))
 chk ((decide ((0 : Int) <= s52.2)) && (decide (s52.2 < ((s52.1.length : Nat) : Int)))) <|
 let v55 : List ((Int) × Int) := (s52.1.set (Int.toNat s52.2) (v53.1, v53.2))
 chk ((decide ((0 : Int) <= a1)) && (decide (a1 < ((v55.length : Nat) : Int)))) <|
 let v56 : List ((Int) × Int) := (v55.set (Int.toNat a1) (v54.1, v54.2))
 some (v56, s52.2, false)
noncomputable def slices_pdqsortCmpFunc_impl_Pair (a0 : List ((Int) × Int)) (a1 : Int) (a2 : Int) (a3 : Int) : Option (List ((Int) × Int)) :=
 (loopM (σ := (List ((Int) × Int)) × Int × Int) (X := List ((Int) × Int)) (fun s0 =>
 (let j1 : (List ((Int) × Int)) × Int × Int -> Option _ := fun s2 =>
 (some (.inl (s2.1, s2.2.1, s2.2.2)))
 if (decide ((i64 (a2 - s0.2.1)) <= (12 : Int))) then
 ((slices_insertionSortCmpFunc_impl_Pair s0.1 s0.2.1 a2).bind fun r3 =>
 some (.inr r3))
 else
 if (decide (s0.2.2 = (0 : Int))) then
 ((slices_heapSortCmpFunc_impl_Pair s0.1 s0.2.1 a2).bind fun r4 =>
 some (.inr r4))
 else
 (if (!true) then
 ((slices_breakPatternsCmpFunc_impl_Pair s0.1 s0.2.1 a2).bind fun r5 =>
 some (r5, (i64 (s0.2.2 - (1 : Int)))) : Option ((List ((Int) × Int)) × Int))
 else
 (some (s0.1, s0.2.2))).bind fun s6 =>
 (slices_choosePivotCmpFunc_impl_Pair s6.1 s0.2.1 a2).bind fun r7 =>
 (if (decide (r7.2 = (2 : Int))) then
 ((slices_reverseRangeCmpFunc_impl_Pair s6.1 s0.2.1 a2).bind fun r8 =>
 some (r8, (i64 ((i64 (a2 - (1 : Int))) - (i64 (r7.1 - s0.2.1)))), (1 : Int)) : Option ((List ((Int) × Int)) × Int × Int))
 else
 (some (s6.1, r7.1, r7.2))).bind fun s9 =>
 let v10 : Bool := (if true then true else false)
 let v11 : Bool := (if v10 then (decide (s9.2.2 = (1 : Int))) else false)
 let j12 : List ((Int) × Int) -> Option _ := fun s13 =>
 (chk (!(decide ((0 : Int) < s0.2.1)) || ((decide ((0 : Int) <= (i64 (s0.2.1 - (1 : Int))))) && (decide ((i64 (s0.2.1 - (1 : Int))) < ((s13.length : Nat) : Int))))) <|
 let v14 : (Int) × Int := (s13.getD (Int.toNat (i64 (s0.2.1 - (1 : Int)))) (0, 0))
 chk (!(decide ((0 : Int) < s0.2.1)) || ((decide ((0 : Int) <= s9.2.1)) && (decide (s9.2.1 < ((s13.length : Nat) : Int))))) <|
 let v15 : (Int) × Int := (s13.getD (Int.toNat s9.2.1) (0, 0))
 (if (decide ((0 : Int) < s0.2.1)) then impl_sortPairs_1 v14.1 v14.2 v15.1 v15.2 else some 0).bind fun r16 =>
 let v17 : Bool := (if (decide ((0 : Int) < s0.2.1)) then (!(decide (r16 < (0 : Int)))) else false)
 if v17 then
 ((slices_partitionEqualCmpFunc_impl_Pair s13 s0.2.1 a2 s9.2.1).bind fun r18 =>
 j1 (r18.1, r18.2, s6.2))
 else
 (slices_partitionCmpFunc_impl_Pair s13 s0.2.1 a2 s9.2.1).bind fun r19 =>
 if (decide ((i64 (r19.2.1 - s0.2.1)) < (i64 (a2 - r19.2.1)))) then
 (chk false <|
 none)
 else
 chk false <|
 none)
 if v11 then
 ((slices_partialInsertionSortCmpFunc_impl_Pair s9.1 s0.2.1 a2).bind fun r20 =>
 if r20.2 then
 (some (.inr r20.1))
 else
 j12 r20.1)
 else
 j12 s9.1)) (a0, a1, a3)).bind fun x21 =>
 some x21
noncomputable def pdqF (rec : List ((Int) × Int) -> Int -> Int -> Int -> Option (List ((Int) × Int))) (a0 : List ((Int) × Int)) (a1 : Int) (a2 : Int) (a3 : Int) : Option (List ((Int) × Int)) :=
 (loopM (σ := (List ((Int) × Int)) × Int × Int × Int × Bool × Bool) (X := List ((Int) × Int)) (fun s0 =>
 (let j1 : (List ((Int) × Int)) × Int × Int × Int × Bool × Bool -> Option _ := fun s2 =>
 (some (.inl (s2.1, s2.2.1, s2.2.2.1, s2.2.2.2.1, s2.2.2.2.2.1, s2.2.2.2.2.2)))
 if (decide ((i64 (s0.2.2.1 - s0.2.1)) <= (12 : Int))) then
 ((slices_insertionSortCmpFunc_impl_Pair s0.1 s0.2.1 s0.2.2.1).bind fun r3 =>
 some (.inr r3))
 else
 if (decide (s0.2.2.2.1 = (0 : Int))) then
 ((slices_heapSortCmpFunc_impl_Pair s0.1 s0.2.1 s0.2.2.1).bind fun r4 =>
 some (.inr r4))
 else
 (if (!s0.2.2.2.2.1) then
 ((slices_breakPatternsCmpFunc_impl_Pair s0.1 s0.2.1 s0.2.2.1).bind fun r5 =>
 some (r5, (i64 (s0.2.2.2.1 - (1 : Int)))) : Option ((List ((Int) × Int)) × Int))
 else
 (some (s0.1, s0.2.2.2.1))).bind fun s6 =>
 (slices_choosePivotCmpFunc_impl_Pair s6.1 s0.2.1 s0.2.2.1).bind fun r7 =>
 (if (decide (r7.2 = (2 : Int))) then
 ((slices_reverseRangeCmpFunc_impl_Pair s6.1 s0.2.1 s0.2.2.1).bind fun r8 =>
 some (r8, (i64 ((i64 (s0.2.2.1 - (1 : Int))) - (i64 (r7.1 - s0.2.1)))), (1 : Int)) : Option ((List ((Int) × Int)) × Int × Int))
 else
 (some (s6.1, r7.1, r7.2))).bind fun s9 =>
 let v10 : Bool := (if s0.2.2.2.2.1 then s0.2.2.2.2.2 else false)
 let v11 : Bool := (if v10 then (decide (s9.2.2 = (1 : Int))) else false)
 let j12 : List ((Int) × Int) -> Option _ := fun s13 =>
 (chk (!(decide ((0 : Int) < s0.2.1)) || ((decide ((0 : Int) <= (i64 (s0.2.1 - (1 : Int))))) && (decide ((i64 (s0.2.1 - (1 : Int))) < ((s13.length : Nat) : Int))))) <|
 let v14 : (Int) × Int := (s13.getD (Int.toNat (i64 (s0.2.1 - (1 : Int)))) (0, 0))
 chk (!(decide ((0 : Int) < s0.2.1)) || ((decide ((0 : Int) <= s9.2.1)) && (decide (s9.2.1 < ((s13.length : Nat) : Int))))) <|
 let v15 : (Int) × Int := (s13.getD (Int.toNat s9.2.1) (0, 0))
 (if (decide ((0 : Int) < s0.2.1)) then impl_sortPairs_1 v14.1 v14.2 v15.1 v15.2 else some 0).bind fun r16 =>
 let v17 : Bool := (if (decide ((0 : Int) < s0.2.1)) then (!(decide (r16 < (0 : Int)))) else false)
 if v17 then
 ((slices_partitionEqualCmpFunc_impl_Pair s13 s0.2.1 s0.2.2.1 s9.2.1).bind fun r18 =>
 j1 (r18.1, r18.2, s0.2.2.1, s6.2, s0.2.2.2.2.1, s0.2.2.2.2.2))
 else
 (slices_partitionCmpFunc_impl_Pair s13 s0.2.1 s0.2.2.1 s9.2.1).bind fun r19 =>
 (if (decide ((i64 (r19.2.1 - s0.2.1)) < (i64 (s0.2.2.1 - r19.2.1)))) then
 ((rec r19.1 s0.2.1 r19.2.1 s6.2).bind fun r20 =>
 some (r20, (i64 (r19.2.1 + (1 : Int))), s0.2.2.1, (decide ((i64 (Int.tdiv (i64 (s0.2.2.1 - s0.2.1)) (8 : Int))) <= (i64 (r19.2.1 - s0.2.1))))) : Option ((List ((Int) × Int)) × Int × Int × Bool))
 else
 ((rec r19.1 (i64 (r19.2.1 + (1 : Int))) s0.2.2.1 s6.2).bind fun r21 =>
 some (r21, s0.2.1, r19.2.1, (decide ((i64 (Int.tdiv (i64 (s0.2.2.1 - s0.2.1)) (8 : Int))) <= (i64 (s0.2.2.1 - r19.2.1))))))).bind fun s22 =>
 j1 (s22.1, s22.2.1, s22.2.2.1, s6.2, s22.2.2.2, r19.2.2))
 if v11 then
 ((slices_partialInsertionSortCmpFunc_impl_Pair s9.1 s0.2.1 s0.2.2.1).bind fun r23 =>
 if r23.2 then
 (some (.inr r23.1))
 else
 j12 r23.1)
 else
 j12 s9.1)) (a0, a1, a2, a3, true, true)).bind fun x24 =>
 some x24
noncomputable def slices_pdqsortCmpFunc_impl_Pair' (a0 : List ((Int) × Int)) (a1 : Int) (a2 : Int) (a3 : Int) : Option (List ((Int) × Int)) := pdqF slices_pdqsortCmpFunc_impl_Pair a0 a1 a2 a3
noncomputable def slices_pdqsortCmpFunc_impl_Pair'' (a0 : List ((Int) × Int)) (a1 : Int) (a2 : Int) (a3 : Int) : Option (List ((Int) × Int)) := pdqF slices_pdqsortCmpFunc_impl_Pair' a0 a1 a2 a3
noncomputable def slices_pdqsortCmpFunc_impl_Pair''' (a0 : List ((Int) × Int)) (a1 : Int) (a2 : Int) (a3 : Int) : Option (List ((Int) × Int)) := pdqF slices_pdqsortCmpFunc_impl_Pair'' a0 a1 a2 a3
noncomputable def slices_pdqsortCmpFunc_impl_Pair'''' (a0 : List ((Int) × Int)) (a1 : Int) (a2 : Int) (a3 : Int) : Option (List ((Int) × Int)) := pdqF slices_pdqsortCmpFunc_impl_Pair''' a0 a1 a2 a3
noncomputable def slices_pdqsortCmpFunc_impl_Pair''''' (a0 : List ((Int) × Int)) (a1 : Int) (a2 : Int) (a3 : Int) : Option (List ((Int) × Int)) := pdqF slices_pdqsortCmpFunc_impl_Pair'''' a0 a1 a2 a3
noncomputable def slices_pdqsortCmpFunc_impl_Pair'''''' (a0 : List ((Int) × Int)) (a1 : Int) (a2 : Int) (a3 : Int) : Option (List ((Int) × Int)) := pdqF slices_pdqsortCmpFunc_impl_Pair''''' a0 a1 a2 a3
noncomputable def slices_pdqsortCmpFunc_impl_Pair''''''' (a0 : List ((Int) × Int)) (a1 : Int) (a2 : Int) (a3 : Int) : Option (List ((Int) × Int)) := pdqF slices_pdqsortCmpFunc_impl_Pair'''''' a0 a1 a2 a3
noncomputable def slices_pdqsortCmpFunc_impl_Pair'''''''' (a0 : List ((Int) × Int)) (a1 : Int) (a2 : Int) (a3 : Int) : Option (List ((Int) × Int)) := pdqF slices_pdqsortCmpFunc_impl_Pair''''''' a0 a1 a2 a3
noncomputable def slices_pdqsortCmpFunc_impl_Pair''''''''' (a0 : List ((Int) × Int)) (a1 : Int) (a2 : Int) (a3 : Int) : Option (List ((Int) × Int)) := pdqF slices_pdqsortCmpFunc_impl_Pair'''''''' a0 a1 a2 a3
noncomputable def slices_SortFunc__impl_Pair_impl_Pair (a0 : List ((Int) × Int)) : Option (List ((Int) × Int)) :=
 (math_bits_Len (u64 ((a0.length : Nat) : Int))).bind fun r0 =>
 (slices_pdqsortCmpFunc_impl_Pair''''''''' a0 (0 : Int) ((a0.length : Nat) : Int) r0).bind fun r1 =>
 some r1
noncomputable def slices_Compact__impl_Pair_impl_Pair (a0 : List ((Int) × Int)) : Option ((List ((Int) × Int)) × Int) :=
 if (decide (((a0.length : Nat) : Int) < (2 : Int))) then
 (some (a0, ((a0.length : Nat) : Int)))
 else
 let j0 : Unit -> Option _ := fun s1 =>
 (some (a0, ((a0.length : Nat) : Int)))
 (loopM (σ := Int) (X := (Unit) ⊕ ((List ((Int) × Int)) × Int)) (fun s2 =>
 (if (decide (s2 < ((a0.length : Nat) : Int))) then
 (let j3 : Unit -> Option _ := fun s4 =>
 (some (.inl (i64 (s2 + (1 : Int)))))
 chk ((decide ((0 : Int) <= s2)) && (decide (s2 < ((a0.length : Nat) : Int)))) <|
 let v5 : (Int) × Int := (a0.getD (Int.toNat s2) (0, 0))
 chk ((decide ((0 : Int) <= (i64 (s2 - (1 : Int))))) && (decide ((i64 (s2 - (1 : Int))) < ((a0.length : Nat) : Int)))) <|
 let v6 : (Int) × Int := (a0.getD (Int.toNat (i64 (s2 - (1 : Int)))) (0, 0))
 if ((decide (v5.1 = v6.1)) && (decide (v5.2 = v6.2))) then
 (chk ((decide ((0 : Int) <= s2)) && ((decide (s2 <= ((a0.length : Nat) : Int))) && (decide (((a0.length : Nat) : Int) <= ((a0.length : Nat) : Int))))) <|
 ((loopM (σ := (List ((Int) × Int)) × Int × Int) (X := (List ((Int) × Int)) × Int) (fun s7 =>
 (if (decide (s7.2.2 < (((a0.length : Nat) : Int) - s2))) then
 ((chk ((decide ((0 : Int) <= s7.2.2)) && (decide (s7.2.2 < (((a0.length : Nat) : Int) - s2)))) <|
 chk (decide (0 <= (s2 + s7.2.2)) && decide ((s2 + s7.2.2) < ((s7.1.length : Nat) : Int))) <|
 let v8 : (Int) × Int := (s7.1.getD (Int.toNat (s2 + s7.2.2)) (0, 0))
 chk ((decide ((0 : Int) <= (i64 (s7.2.2 - (1 : Int))))) && (decide ((i64 (s7.2.2 - (1 : Int))) < (((a0.length : Nat) : Int) - s2)))) <|
 chk (decide (0 <= (s2 + (i64 (s7.2.2 - (1 : Int))))) && decide ((s2 + (i64 (s7.2.2 - (1 : Int)))) < ((s7.1.length : Nat) : Int))) <|
 let v9 : (Int) × Int := (s7.1.getD (Int.toNat (s2 + (i64 (s7.2.2 - (1 : Int))))) (0, 0))
 (if (!((decide (v8.1 = v9.1)) && (decide (v8.2 = v9.2)))) then
 (chk ((decide ((0 : Int) <= s7.2.2)) && (decide (s7.2.2 < (((a0.length : Nat) : Int) - s2)))) <|
 chk (decide (0 <= (s2 + s7.2.2)) && decide ((s2 + s7.2.2) < ((s7.1.length : Nat) : Int))) <|
 let v10 : (Int) × Int := (s7.1.getD (Int.toNat (s2 + s7.2.2)) (0, 0))
 chk ((decide ((0 : Int) <= s7.2.1)) && (decide (s7.2.1 < ((s7.1.length : Nat) : Int)))) <|
 let v11 : List ((Int) × Int) := (s7.1.set (Int.toNat s7.2.1) (v10.1, v10.2))
 some (v11, (i64 (s7.2.1 + (1 : Int)))) : Option ((List ((Int) × Int)) × Int))
 else
 (some (s7.1, s7.2.1))).bind fun s12 =>
 some (s12.1, s12.2) : Option ((List ((Int) × Int)) × Int)).bind fun s13 =>
 some (.inl (s13.1, s13.2, (i64 (s7.2.2 + (1 : Int))))))
 else
 some (.inr (s7.1, s7.2.1)))) (a0, s2, (1 : Int))).bind fun x14 =>
 some (x14.1, x14.2) : Option ((List ((Int) × Int)) × Int)).bind fun s15 =>
 chk ((decide ((0 : Int) <= s15.2)) && ((decide (s15.2 <= ((s15.1.length : Nat) : Int))) && (decide (((s15.1.length : Nat) : Int) <= ((s15.1.length : Nat) : Int))))) <|
 let v16 : List ((Int) × Int) := (((s15.1.take (Int.toNat s15.2)).drop (Int.toNat (0 : Int))) ++ ((List.replicate (Int.toNat (((s15.1.length : Nat) : Int) - s15.2)) ((0 : Int), (0 : Int))) ++ ((s15.1.take (Int.toNat ((s15.1.length : Nat) : Int))).drop (Int.toNat (s15.2 + (((s15.1.length : Nat) : Int) - s15.2))))))
 chk ((decide ((0 : Int) <= (0 : Int))) && ((decide ((0 : Int) <= s15.2)) && (decide (s15.2 <= ((v16.length : Nat) : Int))))) <|
 some (.inr (.inr (v16, s15.2))))
 else
 j3 ())
 else
 some (.inr (.inl ())))) (1 : Int)).bind fun x17 =>
 sumE x17 (fun y18 =>
 j0 ()) (fun z19 =>
 some (z19.1, z19.2))
noncomputable def impl_sortPairs (a0 : List ((Int) × Int)) : Option ((List ((Int) × Int)) × Int) :=
 (slices_SortFunc__impl_Pair_impl_Pair a0).bind fun r0 =>
 (slices_Compact__impl_Pair_impl_Pair r0).bind fun r1 =>
 some (r1.1, r1.2)
noncomputable def impl_conflicts (a0 : List ((Int) × (Int) × List UInt8)) : Option ((List ((Int) × Int)) × Int) :=
 ((loopM (σ := (List ((Int) × Int)) × Int) (X := List ((Int) × Int)) (fun s0 =>
 (if (decide (s0.2 < ((a0.length : Nat) : Int))) then
 ((chk ((decide ((0 : Int) <= s0.2)) && (decide (s0.2 < ((a0.length : Nat) : Int)))) <|
 let v1 : (Int) × (Int) × List UInt8 := (a0.getD (Int.toNat s0.2) (0, (0, [])))
 chk ((decide ((0 : Int) <= (0 : Int))) && ((decide ((0 : Int) <= s0.2)) && (decide (s0.2 <= ((a0.length : Nat) : Int))))) <|
 ((loopM (σ := (List ((Int) × Int)) × Int) (X := List ((Int) × Int)) (fun s2 =>
 (if (decide (s2.2 < s0.2)) then
 ((chk ((decide ((0 : Int) <= s2.2)) && (decide (s2.2 < s0.2))) <|
 chk (decide (0 <= s2.2) && decide (s2.2 < ((a0.length : Nat) : Int))) <|
 let v3 : (Int) × (Int) × List UInt8 := (a0.getD (Int.toNat s2.2) (0, (0, [])))
 let v4 : Bool := (if (!decide (v3.2.1 = v1.2.1)) then (!decide (v3.2.2 = ([] : List UInt8))) else false)
 let v5 : Bool := (if v4 then (decide (v3.2.2 = v1.2.2)) else false)
 let v6 : Bool := (if (decide (v3.1 = (2 : Int))) then true else (decide (v1.1 = (2 : Int))))
 let v7 : Bool := (if v5 then v6 else false)
 (if v7 then
 (let v8 : List ((Int) × Int) := ((v3.2.1, v1.2.1) :: ([] : List ((Int) × Int)))
 let v9 : List ((Int) × Int) := (s2.1 ++ v8)
 chk (decide (((v9.length : Nat) : Int) <= (8796093022208 : Int))) <|
 some v9 : Option (List ((Int) × Int)))
 else
 (some s2.1)).bind fun s10 =>
 some s10 : Option (List ((Int) × Int))).bind fun s11 =>
 some (.inl (s11, (i64 (s2.2 + (1 : Int))))))
 else
 some (.inr s2.1))) (s0.1, (0 : Int))).bind fun x12 =>
 some x12 : Option (List ((Int) × Int))).bind fun s13 =>
 some s13 : Option (List ((Int) × Int))).bind fun s14 =>
 some (.inl (s14, (i64 (s0.2 + (1 : Int))))))
 else
 some (.inr s0.1))) (([] : List ((Int) × Int)), (0 : Int))).bind fun x15 =>
 some x15 : Option (List ((Int) × Int))).bind fun s16 =>
 (impl_sortPairs s16).bind fun r17 =>
 some (r17.1, r17.2)
noncomputable def impl_SerialOrder_1_1 (a0 : Int) (a1 : Int) (a2 : Int) (a3 : List (Int)) : Option (Bool) :=
 (if (decide (a1 = a2)) then slices_Contains__int_int a3 a0 else some false).bind fun r0 =>
 let v1 : Bool := (if (decide (a1 = a2)) then r0 else false)
 some v1
noncomputable def slices_IndexFunc__impl_Pair_impl_Pair (a0 : List ((Int) × Int)) (a1 : Int) (a2 : List (Int)) : Option (Int) :=
 let j0 : Unit -> Option _ := fun s1 =>
 (some (-1 : Int))
 (loopM (σ := Int) (X := (Unit) ⊕ (Int)) (fun s2 =>
 (if (decide (s2 < ((a0.length : Nat) : Int))) then
 (let j3 : Unit -> Option _ := fun s4 =>
 (some (.inl (i64 (s2 + (1 : Int)))))
 chk ((decide ((0 : Int) <= s2)) && (decide (s2 < ((a0.length : Nat) : Int)))) <|
 let v5 : (Int) × Int := (a0.getD (Int.toNat s2) (0, 0))
 (impl_SerialOrder_1_1 v5.1 v5.2 a1 a2).bind fun r6 =>
 if r6 then
 (some (.inr (.inr s2)))
 else
 j3 ())
 else
 some (.inr (.inl ())))) (0 : Int)).bind fun x7 =>
 sumE x7 (fun y8 =>
 j0 ()) (fun z9 =>
 some z9)
noncomputable def slices_ContainsFunc__impl_Pair_impl_Pair (a0 : List ((Int) × Int)) (a1 : Int) (a2 : List (Int)) : Option (Bool) :=
 (slices_IndexFunc__impl_Pair_impl_Pair a0 a1 a2).bind fun r0 =>
 some (decide ((0 : Int) <= r0))
noncomputable def impl_SerialOrder_1 (a0 : Int) (a1 : List ((Int) × Int)) (a2 : List (Int)) : Option (Bool) :=
 (slices_ContainsFunc__impl_Pair_impl_Pair a1 a0 a2).bind fun r0 =>
 some (!r0)
noncomputable def slices_IndexFunc__int_int'''''' (a0 : List (Int)) (a1 : List ((Int) × Int)) (a2 : List (Int)) : Option (Int) :=
 let j0 : Unit -> Option _ := fun s1 =>
 (some (-1 : Int))
 (loopM (σ := Int) (X := (Unit) ⊕ (Int)) (fun s2 =>
 (if (decide (s2 < ((a0.length : Nat) : Int))) then
 (let j3 : Unit -> Option _ := fun s4 =>
 (some (.inl (i64 (s2 + (1 : Int)))))
 chk ((decide ((0 : Int) <= s2)) && (decide (s2 < ((a0.length : Nat) : Int)))) <|
 (impl_SerialOrder_1 (a0.getD (Int.toNat s2) 0) a1 a2).bind fun r5 =>
 if r5 then
 (some (.inr (.inr s2)))
 else
 j3 ())
 else
 some (.inr (.inl ())))) (0 : Int)).bind fun x6 =>
 sumE x6 (fun y7 =>
 j0 ()) (fun z8 =>
 some z8)
noncomputable def slices_Delete__int_int (a0 : List (Int)) (a1 : Int) (a2 : Int) : Option (List (Int)) :=
 chk (decide ((0 : Int) <= a1)) <|
 chk (decide (a1 <= a2)) <|
 chk (decide (a2 <= ((a0.length : Nat) : Int))) <|
 chk (decide (((a0.length : Nat) : Int) <= (140737488355328 : Int))) <|
 some (((a0.take (Int.toNat a1)).drop (Int.toNat (0 : Int))) ++ ((a0.take (Int.toNat ((a0.length : Nat) : Int))).drop (Int.toNat a2)))
noncomputable def impl_SerialOrder (a0 : List ((Int) × (Int) × List UInt8)) : Option ((List (Int)) × Bool) :=
 (impl_areOps a0).bind fun r0 =>
 if (!r0) then
 (some (([] : List (Int)), false))
 else
 (impl_txnsOf a0).bind fun r1 =>
 (impl_conflicts a0).bind fun r2 =>
 let j3 : List (Int) -> Option _ := fun s4 =>
 (some (s4, true))
 (loopM (σ := (List (Int)) × List (Int)) (X := (List (Int)) ⊕ ((List (Int)) × Bool)) (fun s5 =>
 (if (decide ((0 : Int) < ((s5.1.length : Nat) : Int))) then
 (let j6 : (List (Int)) × List (Int) -> Option _ := fun s7 =>
 (some (.inl (s7.1, s7.2)))
 (slices_IndexFunc__int_int'''''' s5.1 ((r2.1.take (Int.toNat r2.2)).drop (Int.toNat (0 : Int))) s5.1).bind fun r8 =>
 if (decide (r8 < (0 : Int))) then
 (some (.inr (.inr (([] : List (Int)), false))))
 else
 chk ((decide ((0 : Int) <= r8)) && (decide (r8 < ((s5.1.length : Nat) : Int)))) <|
 let v9 : List (Int) := ((s5.1.getD (Int.toNat r8) 0) :: ([] : List (Int)))
 let v10 : List (Int) := (s5.2 ++ v9)
 chk (decide (((v10.length : Nat) : Int) <= (17592186044416 : Int))) <|
 (slices_Delete__int_int s5.1 r8 (i64 (r8 + (1 : Int)))).bind fun r11 =>
 j6 (r11, v10))
 else
 some (.inr (.inl s5.2)))) (r1, ([] : List (Int)))).bind fun x12 =>
 sumE x12 (fun y13 =>
 j3 y13) (fun z14 =>
 some (z14.1, z14.2))
noncomputable def laws_FnTwoPhase (a0 : List (Int)) : Option (Bool) :=
 if (decide ((1048576 : Int) < ((a0.length : Nat) : Int))) then
 (some true)
 else
 (spec_DrawIsTwoPhase a0).bind fun r0 =>
 (impl_IsTwoPhase r0.1 r0.2).bind fun r1 =>
 (spec_IsTwoPhase r0.1 r0.2).bind fun r2 =>
 let v3 : Bool := (if (r1.2 != r2.2) then true else (r1.1 != r2.1))
 if v3 then
 (some false)
 else
 if (!r1.1) then
 (some true)
 else
 (impl_SerialOrder r0.1).bind fun r4 =>
 some r4.2
theorem Tc : (∀ a b : Bool, ((a && b) = true) = (a = true /\ b = true)) /\ (∀ a b : Bool, ((a || b) = true) = (a = true \/ b = true)) /\ (∀ b : Bool, ((!b) = true) = (b = false)) /\ (∀ {p : Prop} [Decidable p], (decide p = true) = p) /\
 (∀ {p : Prop} [Decidable p], (decide p = false) = ¬ p) /\ (∀ {A : Type} {l : List A} {i : Nat} {x : A}, (l.set i x).length = l.length) :=
 ⟨fun a b => by cases a <;> cases b <;> simp, fun a b => by cases a <;> cases b <;> simp, fun b => by cases b <;> simp, by simp, by simp, by simp⟩
abbrev Pr := Int × Int
abbrev P0 : Pr := (0, 0)
theorem ziY (a b c d : Int) : ∃ r, impl_sortPairs_1 a b c d = some r := by
 unfold impl_sortPairs_1
 simp only [zes, bind_some, zja]
 exact ⟨_, rfl⟩
theorem Ok.cmp1 {a b c d : Int} {B : Type} {f : Int -> Option B} {Q : B -> Prop} (k : ∀ r, Ok (f r) Q) : Ok ((impl_sortPairs_1 a b c d).bind f) Q := by
 obtain ⟨r, h⟩ := ziY a b c d
 exact Ok.be h (k r)
theorem Ok.cmpI {p : Prop} [Decidable p] {a b c d : Int} {B : Type} {f : Int -> Option B} {Q : B -> Prop} (k : ∀ r, Ok (f r) Q) : Ok ((if p then impl_sortPairs_1 a b c d else some 0).bind f) Q := by
 by_cases h : p
 · rw [if_pos h]; exact Ok.cmp1 k
 · rw [if_neg h]; exact k 0
theorem ziT {l : List Pr} {i j : Nat} (hi : i < l.length) (hj : j < l.length) : ((l.set i (l.getD j P0)).set j (l.getD i P0)).Perm l := by
 have e : ∀ k, (h : k < l.length) -> l.getD k P0 = l[k] := fun k h => by rw [List.getD_eq_getElem?_getD, List.getElem?_eq_getElem h]; rfl
 rw [e i hi, e j hj]
 exact List.set_set_perm hi hj
theorem za0 {l d : List Pr} {i j : Int} (h : l.Perm d) (hi : 0 <= i /\ i < l.length) (hj : 0 <= j /\ j < l.length) : ((l.set i.toNat (l.getD j.toNat P0)).set j.toNat (l.getD i.toNat P0)).Perm d :=
 (ziT (by omega) (by omega)).trans h
theorem zfV {d : List Pr} {a b : Int} (ha : 0 <= a) (hb : b <= d.length) (hn : (d.length : Int) <= 1000000000) (hab : a <= b) : Ok (slices_insertionSortCmpFunc_impl_Pair d a b) (fun r => r.Perm d) := by
 unfold slices_insertionSortCmpFunc_impl_Pair
 refine Ok.bind (P := fun r => r.Perm d) ?_ fun r hr => Ok.ret hr
 refine Ok.bind (P := fun r => r.Perm d) ?_ fun r hr => Ok.ret hr
 rw [zac (by omega) (by omega)]
 refine zal (fun s : List Pr × Int => s.1.Perm d /\ a + 1 <= s.2 /\ s.2 <= b + 1) (fun s => (b + 1 - s.2).toNat) ?_ ⟨List.Perm.refl _, by dsimp only; omega, by dsimp only; omega⟩
 rintro ⟨l, i⟩ ⟨hp, h1, h2⟩
 dsimp only at hp h1 h2 ⊢
 refine Ok.ited (fun hc => ?_) fun hc => Ok.ret hp
 refine Ok.bind (P := fun r => r.Perm d) ?_ fun r hr => ?_
 · refine Ok.bind (P := fun r => r.Perm d) ?_ fun r hr => Ok.ret hr
   refine Ok.bind (P := fun r => r.Perm d) ?_ fun r hr => Ok.ret hr
   refine zal (fun s : List Pr × Int => s.1.Perm d /\ a <= s.2 /\ s.2 <= i) (fun s => s.2.toNat) ?_ ⟨hp, by dsimp only; omega, by dsimp only; omega⟩
   rintro ⟨m, j⟩ ⟨hq, g1, g2⟩
   dsimp only at hq g1 g2 ⊢
   have hl := hq.length_eq
   simp (disch := omega) only [Cc, if_true, if_false]
   (repeat' (first | (with_reducible refine Ok.bc ?_ ?_; (· exact (by first | rfl | (simp only [Tc]; omega)))) | (with_reducible refine Ok.chk ?_ ?_; (· exact (by first | rfl | (simp only [Tc]; omega))))))
   refine Ok.cmpI fun r => ?_
   refine Ok.ite (fun hv => ?_) fun hv => Ok.ret hq
   have hj : a < j := by
    by_cases h : a < j
    · exact h
    · simp [h] at hv
   (repeat' (first | with_reducible refine Ok.bb ?_ | with_reducible refine Ok.bs ?_ | (with_reducible refine Ok.bc ?_ ?_; (· exact (by first | rfl | (simp only [Tc]; omega)))) | (with_reducible refine Ok.chk ?_ ?_; (· exact (by first | rfl | (simp only [Tc]; omega)))) | with_reducible refine Ok.cmpI fun r => ?_ | with_reducible refine Ok.cmp1 fun r => ?_ | with_reducible refine Ok.bid (fun hc => ?_) (fun hc => ?_) | with_reducible refine Ok.bi (fun hc => ?_) (fun hc => ?_) | with_reducible refine Ok.ited (fun hc => ?_) (fun hc => ?_) | with_reducible refine Ok.ite (fun hc => ?_) (fun hc => ?_)))
   refine Ok.ret ⟨⟨za0 hq (by omega) (by omega), by dsimp only; omega, by dsimp only; omega⟩, by dsimp only; omega⟩
 · rw [zac (by omega) (by omega)]
   exact Ok.ret ⟨⟨hr, by dsimp only; omega, by dsimp only; omega⟩, by dsimp only; omega⟩
theorem zic {d : List Pr} {lo hi first : Int} (h0 : 0 <= lo) (hf : 0 <= first) (hh : first + hi <= d.length) (hlo : lo <= 1000000000) (hn : (d.length : Int) <= 1000000000) (hhi : 0 <= hi) : Ok (slices_siftDownCmpFunc_impl_Pair d lo hi first) (fun r => r.Perm d) := by
 unfold slices_siftDownCmpFunc_impl_Pair
 dsimp only
 refine Ok.bind (P := fun x : List Pr ⊕ List Pr => sumE x (fun y => y.Perm d) (fun y => y.Perm d)) ?_ fun x hx => ?_
 · refine zal (fun s : List Pr × Int => s.1.Perm d /\ 0 <= s.2 /\ s.2 <= 1000000000) (fun s => (hi - s.2).toNat) ?_ ⟨List.Perm.refl _, by dsimp only; omega, by dsimp only; omega⟩
   rintro ⟨l, root⟩ ⟨hp, h1, h2⟩
   dsimp only at hp h1 h2 ⊢
   have hl := hp.length_eq
   rw [zac (x := 2 * root) (by omega) (by omega), zac (x := 2 * root + 1) (by omega) (by omega), zac (x := 2 * root + 1 + 1) (by omega) (by omega)]
   refine Ok.ited (fun hc => Ok.ret hp) fun hc => ?_
   simp (disch := omega) only [Cc, if_true, if_false]
   (repeat' (first | (with_reducible refine Ok.bc ?_ ?_; (· exact (by first | rfl | (simp only [Tc]; omega)))) | (with_reducible refine Ok.chk ?_ ?_; (· exact (by first | rfl | (simp only [Tc]; omega))))))
   refine Ok.cmpI fun r => ?_
   refine Ok.bind (P := fun c : Int => (c = 2 * root + 1 \/ c = 2 * root + 1 + 1) /\ c < hi) ?_ fun c hcc => ?_
   · refine Ok.ite (fun hv => ?_) fun hv => Ok.ret ⟨.inl rfl, by omega⟩
     refine Ok.ret ⟨.inr rfl, ?_⟩
     by_cases h : 2 * root + 1 + 1 < hi
     · exact h
     · simp [h] at hv
   have hcr : root < c := by omega
   have hc0 : 0 <= c := by omega
   have hci := hcc.2
   simp (disch := omega) only [Cc, if_true, if_false]
   (repeat' (first | (with_reducible refine Ok.bc ?_ ?_; (· exact (by first | rfl | (simp only [Tc]; omega)))) | (with_reducible refine Ok.chk ?_ ?_; (· exact (by first | rfl | (simp only [Tc]; omega))))))
   refine Ok.cmp1 fun r2 => ?_
   refine Ok.ite (fun _ => Ok.ret hp) fun _ => ?_
   (repeat' (first | (with_reducible refine Ok.bc ?_ ?_; (· exact (by first | rfl | (simp only [Tc]; omega)))) | (with_reducible refine Ok.chk ?_ ?_; (· exact (by first | rfl | (simp only [Tc]; omega))))))
   refine Ok.ret ⟨⟨za0 hp (by omega) (by omega), by dsimp only; omega, by dsimp only; omega⟩, by dsimp only; omega⟩
 · rcases x with y | y
   · exact Ok.ret hx
   · exact Ok.ret hx
theorem ziW {d : List Pr} {a b : Int} (ha : 0 <= a) (hb : b <= d.length) (hn : (d.length : Int) <= 1000000000) (hab : a < b) : Ok (slices_heapSortCmpFunc_impl_Pair d a b) (fun r => r.Perm d) := by
 unfold slices_heapSortCmpFunc_impl_Pair
 have e0 : i64 (b - a) = b - a := zac (by omega) (by omega)
 have e1 : i64 (b - a - 1) = b - a - 1 := zac (by omega) (by omega)
 have e2 : Int.tdiv (b - a - 1) 2 = (b - a - 1) / 2 := Int.tdiv_eq_ediv_of_nonneg (by omega)
 rw [e0, e1, e2, zac (by omega) (by omega)]
 refine Ok.bind (P := fun r => r.Perm d) ?_ fun l hl => ?_
 · refine Ok.bind (P := fun r => r.Perm d) ?_ fun l hl => Ok.ret hl
   refine zal (fun s : List Pr × Int => s.1.Perm d /\ s.2 <= b - a) (fun s => (s.2 + 1).toNat) ?_ ⟨List.Perm.refl _, by dsimp only; omega⟩
   rintro ⟨l, i⟩ ⟨hp, h1⟩
   dsimp only at hp h1 ⊢
   have hl := hp.length_eq
   refine Ok.ited (fun hc => ?_) fun hc => Ok.ret hp
   refine Ok.bind (P := fun r => r.Perm d) (Ok.bind (zic (by omega) ha (by omega) (by omega) (by omega) (by omega)) fun r hr => Ok.ret (hr.trans hp)) fun r hr => ?_
   rw [zac (by omega) (by omega)]
   exact Ok.ret ⟨⟨hr, by dsimp only; omega⟩, by dsimp only; omega⟩
 · refine Ok.bind (P := fun r => r.Perm d) ?_ fun r hr => Ok.ret hr
   refine Ok.bind (P := fun r => r.Perm d) ?_ fun r hr => Ok.ret hr
   refine zal (fun s : List Pr × Int => s.1.Perm d /\ s.2 < b - a) (fun s => (s.2 + 1).toNat) ?_ ⟨hl, by dsimp only; omega⟩
   rintro ⟨l, i⟩ ⟨hp, h1⟩
   dsimp only at hp h1 ⊢
   have hl := hp.length_eq
   refine Ok.ited (fun hc => ?_) fun hc => Ok.ret hp
   simp (disch := omega) only [Cc, if_true, if_false]
   refine Ok.bind (P := fun r => r.Perm d) ?_ fun r hr => ?_
   · (repeat' (first | (with_reducible refine Ok.bc ?_ ?_; (· exact (by first | rfl | (simp only [Tc]; omega)))) | (with_reducible refine Ok.chk ?_ ?_; (· exact (by first | rfl | (simp only [Tc]; omega))))))
     have hs := za0 (i := a) (j := a + i) hp (by omega) (by omega)
     have hsl := hs.length_eq
     refine Ok.bind (zic (by omega) ha ?_ (by omega) ?_ (by omega)) fun r hr => Ok.ret (hr.trans hs)
     · simp only [List.length_set]; omega
     · simp only [List.length_set]; omega
   · exact Ok.ret ⟨⟨hr, by dsimp only; omega⟩, by dsimp only; omega⟩
theorem zjw {d : List Pr} {a b : Int} (ha : 0 <= a) (hb : b <= d.length) (hn : (d.length : Int) <= 1000000000) (hab : a <= b) : Ok (slices_reverseRangeCmpFunc_impl_Pair d a b) (fun r => r.Perm d) := by
 unfold slices_reverseRangeCmpFunc_impl_Pair
 rw [zac (by omega) (by omega)]
 refine Ok.bind (P := fun r => r.Perm d) ?_ fun r hr => Ok.ret hr
 refine Ok.bind (P := fun r => r.Perm d) ?_ fun r hr => Ok.ret hr
 refine zal (fun s : List Pr × Int × Int => s.1.Perm d /\ 0 <= s.2.1 /\ s.2.1 <= b + 1 /\ s.2.2 < b /\ -1 <= s.2.2) (fun s => (s.2.2 + 1).toNat) ?_ ⟨List.Perm.refl _, by dsimp only; omega, by dsimp only; omega, by dsimp only; omega, by dsimp only; omega⟩
 rintro ⟨l, i, j⟩ ⟨hp, h1, h2, h3, h4⟩
 dsimp only at hp h1 h2 h3 h4 ⊢
 have hl := hp.length_eq
 refine Ok.ited (fun hc => ?_) fun hc => Ok.ret hp
 simp (disch := omega) only [Cc, if_true, if_false]
 refine Ok.bind (P := fun r => r.Perm d) ?_ fun r hr => ?_
 · (repeat' (first | (with_reducible refine Ok.bc ?_ ?_; (· exact (by first | rfl | (simp only [Tc]; omega)))) | (with_reducible refine Ok.chk ?_ ?_; (· exact (by first | rfl | (simp only [Tc]; omega))))))
   exact Ok.ret (za0 hp (by omega) (by omega))
 · exact Ok.ret ⟨⟨hr, by dsimp only; omega, by dsimp only; omega, by dsimp only; omega, by dsimp only; omega⟩, by dsimp only; omega⟩
theorem zgp {d : List Pr} {a b s : Int} (ha : 0 <= a /\ a < d.length) (hb : 0 <= b /\ b < d.length) : Ok (slices_order2CmpFunc_impl_Pair d a b s) (fun r => (r.2.1 = a /\ r.2.2 = b) \/ (r.2.1 = b /\ r.2.2 = a)) := by
 unfold slices_order2CmpFunc_impl_Pair
 dsimp only
 (repeat' (first | (with_reducible refine Ok.bc ?_ ?_; (· exact (by first | rfl | (simp only [Tc]; omega)))) | (with_reducible refine Ok.chk ?_ ?_; (· exact (by first | rfl | (simp only [Tc]; omega))))))
 refine Ok.cmp1 fun r => ?_
 refine Ok.ite (fun _ => Ok.ret (.inr ⟨rfl, rfl⟩)) fun _ => Ok.ret (.inl ⟨rfl, rfl⟩)
theorem zi8 {d : List Pr} {a b c s : Int} (ha : 0 <= a /\ a < d.length) (hb : 0 <= b /\ b < d.length) (hc : 0 <= c /\ c < d.length) : Ok (slices_medianCmpFunc_impl_Pair d a b c s) (fun r => r.2 = a \/ r.2 = b \/ r.2 = c) := by
 unfold slices_medianCmpFunc_impl_Pair
 refine Ok.bind (zgp ha hb) fun r0 h0 => ?_
 refine Ok.bind (zgp (by omega) hc) fun r1 h1 => ?_
 refine Ok.bind (zgp (by omega) (by omega)) fun r2 h2 => ?_
 exact Ok.ret (by dsimp only; omega)
theorem zg7 {d : List Pr} {i s : Int} (hi : 1 <= i /\ i + 1 < d.length) (hn : (d.length : Int) <= 1000000000) : Ok (slices_medianAdjacentCmpFunc_impl_Pair d i s) (fun r => i - 1 <= r.2 /\ r.2 <= i + 1) := by
 unfold slices_medianAdjacentCmpFunc_impl_Pair
 rw [zac (x := i - 1) (by omega) (by omega), zac (x := i + 1) (by omega) (by omega)]
 refine Ok.bind (zi8 (by omega) (by omega) (by omega)) fun r0 h0 => Ok.ret (by dsimp only; omega)
theorem zid {d : List Pr} {a b : Int} (ha : 0 <= a) (hb : b <= d.length) (hn : (d.length : Int) <= 1000000000) (hab : a < b) : Ok (slices_choosePivotCmpFunc_impl_Pair d a b) (fun r => a <= r.1 /\ r.1 < b) := by
 unfold slices_choosePivotCmpFunc_impl_Pair
 have e0 : i64 (b - a) = b - a := zac (by omega) (by omega)
 have e1 : Int.tdiv (b - a) 4 = (b - a) / 4 := Int.tdiv_eq_ediv_of_nonneg (by omega)
 have e2 : i64 ((b - a) / 4) = (b - a) / 4 := zac (by omega) (by omega)
 have e3 : i64 ((b - a) / 4 * 1) = (b - a) / 4 := by rw [zac (by omega) (by omega)]; omega
 have e4 : i64 ((b - a) / 4 * 2) = (b - a) / 4 * 2 := zac (by omega) (by omega)
 have e5 : i64 ((b - a) / 4 * 3) = (b - a) / 4 * 3 := zac (by omega) (by omega)
 have e6 : i64 (a + (b - a) / 4) = a + (b - a) / 4 := zac (by omega) (by omega)
 have e7 : i64 (a + (b - a) / 4 * 2) = a + (b - a) / 4 * 2 := zac (by omega) (by omega)
 have e8 : i64 (a + (b - a) / 4 * 3) = a + (b - a) / 4 * 3 := zac (by omega) (by omega)
 simp only [e0, e1, e2, e3, e4, e5, e6, e7, e8]
 refine Ok.bind (P := fun s : Int × Int => a <= s.2 /\ s.2 < b) ?_ fun s hs => ?_
 · refine Ok.ited (fun h8 => ?_) fun h8 => Ok.ret ⟨by dsimp only; omega, by dsimp only; omega⟩
   refine Ok.bind (P := fun s : Int × Int × Int × Int => (a <= s.2.1 /\ s.2.1 < b) /\ (a <= s.2.2.1 /\ s.2.2.1 < b) /\ a <= s.2.2.2 /\ s.2.2.2 < b) ?_ fun s hs => ?_
   · refine Ok.ited (fun h50 => ?_) fun h50 => Ok.ret ⟨by dsimp only; omega, by dsimp only; omega, by dsimp only; omega⟩
     refine Ok.bind (zg7 (by omega) hn) fun r0 h0 => ?_
     refine Ok.bind (zg7 (by omega) hn) fun r1 h1 => ?_
     refine Ok.bind (zg7 (by omega) hn) fun r2 h2 => ?_
     exact Ok.ret ⟨by dsimp only; omega, by dsimp only; omega, by dsimp only; omega⟩
   · obtain ⟨⟨q1, q2⟩, ⟨q3, q4⟩, q5, q6⟩ := hs
     refine Ok.bind (zi8 (by omega) (by omega) (by omega)) fun r hr => Ok.ret ⟨by dsimp only; omega, by dsimp only; omega⟩
 · refine Ok.ited (fun _ => Ok.ret hs) fun _ => Ok.ited (fun _ => Ok.ret hs) fun _ => Ok.ret hs
theorem ziP {x y : Int} (h0 : 0 <= y) (h1 : y < 18446744073709551616) : 0 <= ands .u64 x y /\ ands .u64 x y <= y := by
 unfold ands
 obtain ⟨Y, rfl⟩ : ∃ Y : Nat, y = Y := ⟨y.toNat, by omega⟩
 have e : (BitVec.ofInt (IntKind.bits .u64) (Y : Int)).toNat = Y := by
  rw [BitVec.ofInt_natCast, BitVec.toNat_ofNat]
  exact Nat.mod_eq_of_lt (by show Y < 2 ^ 64; omega)
 have h : (BitVec.ofInt (IntKind.bits .u64) x &&& BitVec.ofInt (IntKind.bits .u64) (Y : Int)).toNat <= Y := by
  rw [BitVec.toNat_and, e]; exact Nat.and_le_right
 have e2 : IntKind.wrap .u64 ((BitVec.ofInt (IntKind.bits .u64) x &&& BitVec.ofInt (IntKind.bits .u64) (Y : Int)).toNat : Int) = ((BitVec.ofInt (IntKind.bits .u64) x &&& BitVec.ofInt (IntKind.bits .u64) (Y : Int)).toNat : Int) := zhC (by omega) (by omega)
 rw [e2]; omega
noncomputable def pw (n : Nat) : Bool := match slices_nextPowerOfTwo (n : Int) with
 | some m => decide (1 <= m) && decide (m <= 2 * (n : Int))
 | none => false
theorem zjt : ∀ n, n < 4096 -> 8 <= n -> pw n = true := by
 have : (List.range 4096).all (fun n => Nat.blt n 8 || pw n) = true := by decide +kernel
 intro n h1 h2
 have := List.all_eq_true.1 this n (List.mem_range.2 h1)
 have h3 : Nat.blt n 8 = false := by
  cases h : Nat.blt n 8 with
  | false => rfl
  | true => have := Nat.le_of_ble_eq_true h; omega
 simpa [h3] using this
theorem zjr {n : Int} (h0 : 8 <= n) (h1 : n < 4096) : Ok (slices_nextPowerOfTwo n) (fun m => 1 <= m /\ m <= 2 * n) := by
 have := zjt n.toNat (by omega) (by omega)
 unfold pw at this
 rw [Int.toNat_of_nonneg (by omega)] at this
 cases h : slices_nextPowerOfTwo n with
 | none => rw [h] at this; cases this
 | some m =>
   rw [h] at this
   simp only [Bool.and_eq_true, decide_eq_true_eq] at this
   exact ⟨m, rfl, this⟩
theorem ziz {d : List Pr} {a b : Int} (ha : 0 <= a) (hb : b <= d.length) (hn : (d.length : Int) < 4096) (hab : a <= b) : Ok (slices_breakPatternsCmpFunc_impl_Pair d a b) (fun r => r.Perm d) := by
 unfold slices_breakPatternsCmpFunc_impl_Pair
 have e0 : i64 (b - a) = b - a := zac (by omega) (by omega)
 have e1 : Int.tdiv (b - a) 4 = (b - a) / 4 := Int.tdiv_eq_ediv_of_nonneg (by omega)
 have e2 : i64 ((b - a) / 4) = (b - a) / 4 := zac (by omega) (by omega)
 have e4 : i64 ((b - a) / 4 * 2) = (b - a) / 4 * 2 := zac (by omega) (by omega)
 have e5 : i64 (a + (b - a) / 4 * 2) = a + (b - a) / 4 * 2 := zac (by omega) (by omega)
 have e6 : i64 (a + (b - a) / 4 * 2 - 1) = a + (b - a) / 4 * 2 - 1 := zac (by omega) (by omega)
 have e7 : i64 (a + (b - a) / 4 * 2 + 1) = a + (b - a) / 4 * 2 + 1 := zac (by omega) (by omega)
 simp only [e0, e1, e2, e4, e5, e6, e7]
 refine Ok.bind (P := fun r => r.Perm d) ?_ fun r hr => Ok.ret hr
 refine Ok.ited (fun h8 => ?_) fun _ => Ok.ret (List.Perm.refl _)
 refine Ok.bind (zjr (by omega) (by omega)) fun m hm => ?_
 refine Ok.bind (P := fun r => r.Perm d) ?_ fun r hr => Ok.ret hr
 refine Ok.bind (P := fun r => r.Perm d) ?_ fun r hr => Ok.ret hr
 refine zal (fun s : List Pr × Int × Int => s.1.Perm d /\ a + (b - a) / 4 * 2 - 1 <= s.2.2 /\ s.2.2 <= a + (b - a) / 4 * 2 + 2) (fun s => (a + (b - a) / 4 * 2 + 2 - s.2.2).toNat) ?_ ⟨List.Perm.refl _, by dsimp only; omega, by dsimp only; omega⟩
 rintro ⟨l, x, i⟩ ⟨hp, h1, h2⟩
 dsimp only at hp h1 h2 ⊢
 have hl := hp.length_eq
 refine Ok.ited (fun hc => ?_) fun hc => Ok.ret hp
 refine Ok.bind (P := fun r : List Pr × Int => r.1.Perm d) ?_ fun r hr => ?_
 · refine Ok.bind (P := fun _ => True) ⟨_, rfl, trivial⟩ fun y _ => ?_
   have hu : u64 (m - 1) = m - 1 := zhC (by omega) (by omega)
   have hy := ziP (x := y) (y := m - 1) (by omega) (by omega)
   rw [hu]
   refine Ok.bind (P := fun o : Int => 0 <= o /\ o < b - a) ?_ fun o ho => ?_
   · rw [zac (x := ands .u64 y (m - 1)) (by omega) (by omega)]
     refine Ok.ited (fun hq => ?_) fun hq => Ok.ret (by omega)
     rw [zac (by omega) (by omega)]
     exact Ok.ret (by omega)
   · obtain ⟨o1, o2⟩ := ho
     simp (disch := omega) only [Cc, if_true, if_false]
     (repeat' (first | (with_reducible refine Ok.bc ?_ ?_; (· exact (by first | rfl | (simp only [Tc]; omega)))) | (with_reducible refine Ok.chk ?_ ?_; (· exact (by first | rfl | (simp only [Tc]; omega))))))
     exact Ok.ret (za0 hp (by omega) (by omega))
 · rw [zac (by omega) (by omega)]
   exact Ok.ret ⟨⟨hr, by dsimp only; omega, by dsimp only; omega⟩, by dsimp only; omega⟩
theorem zhG {d : List Pr} {a b p : Int} (ha : 0 <= a) (hb : b <= d.length) (hn : (d.length : Int) <= 1000000000) (hap : a <= p) (hpb : p < b) : Ok (slices_partitionEqualCmpFunc_impl_Pair d a b p) (fun r => r.1.Perm d /\ a < r.2 /\ r.2 <= b) := by
 unfold slices_partitionEqualCmpFunc_impl_Pair
 dsimp only
 (repeat' (first | (with_reducible refine Ok.bc ?_ ?_; (· exact (by first | rfl | (simp only [Tc]; omega)))) | (with_reducible refine Ok.chk ?_ ?_; (· exact (by first | rfl | (simp only [Tc]; omega))))))
 have hs := za0 (i := a) (j := p) (List.Perm.refl d) (by omega) (by omega)
 generalize (d.set a.toNat (d.getD p.toNat P0)).set p.toNat (d.getD a.toNat P0) = l0 at hs
 have e1 : i64 (a + 1) = a + 1 := zac (by omega) (by omega)
 have e2 : i64 (b - 1) = b - 1 := zac (by omega) (by omega)
 rw [e1, e2]
 refine Ok.bind (P := fun r : List Pr × Int => r.1.Perm d /\ a < r.2 /\ r.2 <= b) ?_ fun r hr => Ok.ret hr
 refine Ok.bind (P := fun r : List Pr × Int => r.1.Perm d /\ a < r.2 /\ r.2 <= b) ?_ fun r hr => Ok.ret hr
 refine zal (fun s : List Pr × Int × Int => s.1.Perm d /\ a + 1 <= s.2.1 /\ s.2.1 <= b /\ a <= s.2.2 /\ s.2.2 <= b - 1) (fun s => (s.2.2 + 2 - s.2.1).toNat) ?_ ⟨hs, by dsimp only; omega, by dsimp only; omega, by dsimp only; omega, by dsimp only; omega⟩
 rintro ⟨l, i, j⟩ ⟨hp, h1, h2, h3, h4⟩
 dsimp only at hp h1 h2 h3 h4 ⊢
 have hl := hp.length_eq
 refine Ok.bind (P := fun k : Int => i <= k /\ k <= b) ?_ fun k hk => ?_
 · refine Ok.bind (P := fun k : Int => i <= k /\ k <= b) ?_ fun k hk => Ok.ret hk
   refine zal (fun k : Int => i <= k /\ k <= b) (fun k => (b - k).toNat) ?_ ⟨by omega, by omega⟩
   rintro k ⟨g1, g2⟩
   simp (disch := omega) only [Cc, if_true, if_false]
   (repeat' (first | (with_reducible refine Ok.bc ?_ ?_; (· exact (by first | rfl | (simp only [Tc]; omega)))) | (with_reducible refine Ok.chk ?_ ?_; (· exact (by first | rfl | (simp only [Tc]; omega))))))
   refine Ok.cmpI fun r => ?_
   refine Ok.ite (fun hv => ?_) fun hv => Ok.ret ⟨g1, g2⟩
   have hkj : k <= j := by
    by_cases h : k <= j
    · exact h
    · simp [h] at hv
   refine Ok.bs ?_
   exact Ok.ret ⟨⟨by omega, by omega⟩, by omega⟩
 obtain ⟨k1, k2⟩ := hk
 refine Ok.bind (P := fun q : Int => q <= j /\ a <= q) ?_ fun q hq => ?_
 · refine Ok.bind (P := fun q : Int => q <= j /\ a <= q) ?_ fun q hq => Ok.ret hq
   refine zal (fun q : Int => q <= j /\ a <= q) (fun q => (q - a).toNat) ?_ ⟨by omega, by omega⟩
   rintro q ⟨g1, g2⟩
   simp (disch := omega) only [Cc, if_true, if_false]
   (repeat' (first | (with_reducible refine Ok.bc ?_ ?_; (· exact (by first | rfl | (simp only [Tc]; omega)))) | (with_reducible refine Ok.chk ?_ ?_; (· exact (by first | rfl | (simp only [Tc]; omega))))))
   refine Ok.cmpI fun r => ?_
   refine Ok.ite (fun hv => ?_) fun hv => Ok.ret ⟨g1, g2⟩
   have hkj : k <= q := by
    by_cases h : k <= q
    · exact h
    · simp [h] at hv
   refine Ok.bs ?_
   exact Ok.ret ⟨⟨by omega, by omega⟩, by omega⟩
 obtain ⟨q1, q2⟩ := hq
 refine Ok.ited (fun _ => Ok.ret ⟨hp, by dsimp only; omega, by dsimp only; omega⟩) fun hc => ?_
 simp (disch := omega) only [Cc, if_true, if_false]
 (repeat' (first | (with_reducible refine Ok.bc ?_ ?_; (· exact (by first | rfl | (simp only [Tc]; omega)))) | (with_reducible refine Ok.chk ?_ ?_; (· exact (by first | rfl | (simp only [Tc]; omega))))))
 exact Ok.ret ⟨⟨za0 hp (by omega) (by omega), by dsimp only; omega, by dsimp only; omega, by dsimp only; omega, by dsimp only; omega⟩, by dsimp only; omega⟩
theorem ziS {i j b : Int} {f : Int -> Option (Int ⊕ Int)} (hi : i <= b) (hjb : j < b) (hf : ∀ k, i <= k -> k <= b -> Ok (f k) (fun o => match o with | .inl k' => k <= j /\ k' = k + 1 | .inr x => x = k)) : Ok (loopM f i) (fun k => i <= k /\ k <= b) := by
 refine zal (fun k : Int => i <= k /\ k <= b) (fun k => (b - k).toNat) ?_ ⟨by omega, by omega⟩
 rintro k ⟨g1, g2⟩
 refine (hf k g1 g2).mono fun o ho => ?_
 cases o with
 | inl k' => dsimp only at ho ⊢; omega
 | inr x => dsimp only at ho ⊢; omega
theorem zhM {a k j : Int} {f : Int -> Option (Int ⊕ Int)} (hk : a < k) (hj : a <= j) (hf : ∀ q, a <= q -> q <= j -> Ok (f q) (fun o => match o with | .inl q' => k <= q /\ q' = q - 1 | .inr x => x = q)) : Ok (loopM f j) (fun q => q <= j /\ a <= q) := by
 refine zal (fun q : Int => q <= j /\ a <= q) (fun q => (q - a).toNat) ?_ ⟨by omega, by omega⟩
 rintro q ⟨g1, g2⟩
 refine (hf q g2 g1).mono fun o ho => ?_
 cases o with
 | inl q' => dsimp only at ho ⊢; omega
 | inr x => dsimp only at ho ⊢; omega
theorem zfL {p : Prop} [Decidable p] {x : Bool} (h : (if decide p = true then x else false) = true) : p := by
 by_cases hp : p
 · exact hp
 · simp [hp] at h
theorem ziI {d : List Pr} {a b p : Int} (ha : 0 <= a) (hb : b <= d.length) (hn : (d.length : Int) <= 1000000000) (hap : a <= p) (hpb : p < b) : Ok (slices_partitionCmpFunc_impl_Pair d a b p) (fun r => r.1.Perm d /\ a <= r.2.1 /\ r.2.1 < b) := by
 unfold slices_partitionCmpFunc_impl_Pair
 dsimp only
 (repeat' (first | (with_reducible refine Ok.bc ?_ ?_; (· exact (by first | rfl | (simp only [Tc]; omega)))) | (with_reducible refine Ok.chk ?_ ?_; (· exact (by first | rfl | (simp only [Tc]; omega))))))
 have hs := za0 (i := a) (j := p) (List.Perm.refl d) (by omega) (by omega)
 generalize (d.set a.toNat (d.getD p.toNat P0)).set p.toNat (d.getD a.toNat P0) = l0 at hs
 have hl0 := hs.length_eq
 have e1 : i64 (a + 1) = a + 1 := zac (by omega) (by omega)
 have e2 : i64 (b - 1) = b - 1 := zac (by omega) (by omega)
 rw [e1, e2]
 refine Ok.bind (P := fun k : Int => a + 1 <= k /\ k <= b) ?_ fun k hk => ?_
 · refine Ok.bind (ziS (j := b - 1) (by omega) (by omega) fun k g1 g2 => ?_) fun k hk => Ok.ret hk
   simp (disch := omega) only [Cc, if_true, if_false]
   (repeat' (first | (with_reducible refine Ok.bc ?_ ?_; (· exact (by first | rfl | (simp only [Tc]; omega)))) | (with_reducible refine Ok.chk ?_ ?_; (· exact (by first | rfl | (simp only [Tc]; omega))))))
   refine Ok.cmpI fun r => ?_
   refine Ok.ite (fun hv => ?_) fun hv => Ok.ret rfl
   exact Ok.bs (Ok.ret ⟨zfL hv, rfl⟩)
 obtain ⟨k1, k2⟩ := hk
 refine Ok.bind (P := fun q : Int => q <= b - 1 /\ a <= q) ?_ fun q hq => ?_
 · refine Ok.bind (zhM (k := k) (by omega) (by omega) fun q g1 g2 => ?_) fun k hk => Ok.ret hk
   simp (disch := omega) only [Cc, if_true, if_false]
   (repeat' (first | (with_reducible refine Ok.bc ?_ ?_; (· exact (by first | rfl | (simp only [Tc]; omega)))) | (with_reducible refine Ok.chk ?_ ?_; (· exact (by first | rfl | (simp only [Tc]; omega))))))
   refine Ok.cmpI fun r => ?_
   refine Ok.ite (fun hv => ?_) fun hv => Ok.ret rfl
   exact Ok.bs (Ok.ret ⟨zfL hv, rfl⟩)
 obtain ⟨q1, q2⟩ := hq
 refine Ok.ited (fun hc => ?_) fun hc => ?_
 · (repeat' (first | (with_reducible refine Ok.bc ?_ ?_; (· exact (by first | rfl | (simp only [Tc]; omega)))) | (with_reducible refine Ok.chk ?_ ?_; (· exact (by first | rfl | (simp only [Tc]; omega))))))
   exact Ok.ret ⟨za0 hs (by omega) (by omega), by dsimp only; omega, by dsimp only; omega⟩
 (repeat' (first | (with_reducible refine Ok.bc ?_ ?_; (· exact (by first | rfl | (simp only [Tc]; omega)))) | (with_reducible refine Ok.chk ?_ ?_; (· exact (by first | rfl | (simp only [Tc]; omega))))))
 have hs1 := za0 (i := k) (j := q) hs (by omega) (by omega)
 generalize (l0.set k.toNat (l0.getD q.toNat P0)).set q.toNat (l0.getD k.toNat P0) = l1 at hs1
 rw [zac (x := k + 1) (by omega) (by omega), zac (x := q - 1) (by omega) (by omega)]
 refine Ok.bind (P := fun r : List Pr × Int => r.1.Perm d /\ a <= r.2 /\ r.2 < b) ?_ fun s hs2 => ?_
 · refine Ok.bind (P := fun r : List Pr × Int => r.1.Perm d /\ a <= r.2 /\ r.2 < b) ?_ fun r hr => Ok.ret hr
   refine zal (fun s : List Pr × Int × Int => s.1.Perm d /\ a + 1 <= s.2.1 /\ s.2.1 <= b /\ a <= s.2.2 /\ s.2.2 <= b - 1) (fun s => (s.2.2 + 2 - s.2.1).toNat) ?_ ⟨hs1, by dsimp only; omega, by dsimp only; omega, by dsimp only; omega, by dsimp only; omega⟩
   rintro ⟨l, i, j⟩ ⟨hp, h1, h2, h3, h4⟩
   dsimp only at hp h1 h2 h3 h4 ⊢
   have hl := hp.length_eq
   refine Ok.bind (P := fun k : Int => i <= k /\ k <= b) ?_ fun k hk => ?_
   · refine Ok.bind (ziS (j := j) (by omega) (by omega) fun k g1 g2 => ?_) fun k hk => Ok.ret hk
     simp (disch := omega) only [Cc, if_true, if_false]
     (repeat' (first | (with_reducible refine Ok.bc ?_ ?_; (· exact (by first | rfl | (simp only [Tc]; omega)))) | (with_reducible refine Ok.chk ?_ ?_; (· exact (by first | rfl | (simp only [Tc]; omega))))))
     refine Ok.cmpI fun r => ?_
     refine Ok.ite (fun hv => ?_) fun hv => Ok.ret rfl
     exact Ok.bs (Ok.ret ⟨zfL hv, rfl⟩)
   obtain ⟨k1, k2⟩ := hk
   refine Ok.bind (P := fun q : Int => q <= j /\ a <= q) ?_ fun q hq => ?_
   · refine Ok.bind (zhM (k := k) (by omega) (by omega) fun q g1 g2 => ?_) fun k hk => Ok.ret hk
     simp (disch := omega) only [Cc, if_true, if_false]
     (repeat' (first | (with_reducible refine Ok.bc ?_ ?_; (· exact (by first | rfl | (simp only [Tc]; omega)))) | (with_reducible refine Ok.chk ?_ ?_; (· exact (by first | rfl | (simp only [Tc]; omega))))))
     refine Ok.cmpI fun r => ?_
     refine Ok.ite (fun hv => ?_) fun hv => Ok.ret rfl
     exact Ok.bs (Ok.ret ⟨zfL hv, rfl⟩)
   obtain ⟨q1, q2⟩ := hq
   refine Ok.ited (fun _ => Ok.ret ⟨hp, by dsimp only; omega, by dsimp only; omega⟩) fun hc => ?_
   simp (disch := omega) only [Cc, if_true, if_false]
   (repeat' (first | (with_reducible refine Ok.bc ?_ ?_; (· exact (by first | rfl | (simp only [Tc]; omega)))) | (with_reducible refine Ok.chk ?_ ?_; (· exact (by first | rfl | (simp only [Tc]; omega))))))
   exact Ok.ret ⟨⟨za0 hp (by omega) (by omega), by dsimp only; omega, by dsimp only; omega, by dsimp only; omega, by dsimp only; omega⟩, by dsimp only; omega⟩
 · obtain ⟨m, t⟩ := s
   obtain ⟨hp, t1, t2⟩ := hs2
   dsimp only at hp t1 t2 ⊢
   have hl := hp.length_eq
   (repeat' (first | (with_reducible refine Ok.bc ?_ ?_; (· exact (by first | rfl | (simp only [Tc]; omega)))) | (with_reducible refine Ok.chk ?_ ?_; (· exact (by first | rfl | (simp only [Tc]; omega))))))
   exact Ok.ret ⟨za0 hp (by omega) (by omega), by dsimp only; omega, by dsimp only; omega⟩
theorem ziF {d : List Pr} {a b : Int} (ha : 0 <= a) (hb : b <= d.length) (hn : (d.length : Int) <= 1000000000) (hab : a < b) : Ok (slices_partialInsertionSortCmpFunc_impl_Pair d a b) (fun r => r.1.Perm d) := by
 unfold slices_partialInsertionSortCmpFunc_impl_Pair
 dsimp only
 rw [zac (x := a + 1) (by omega) (by omega)]
 refine Ok.bind (P := fun x : List Pr ⊕ (List Pr × Bool) => sumE x (fun y => y.Perm d) (fun y => y.1.Perm d)) ?_ fun x hx => ?_
 · refine zal (fun s : List Pr × Int × Int => s.1.Perm d /\ a + 1 <= s.2.1 /\ s.2.1 <= b /\ 0 <= s.2.2) (fun s => (5 - s.2.2).toNat) ?_ ⟨List.Perm.refl _, by dsimp only; omega, by dsimp only; omega, by dsimp only; omega⟩
   rintro ⟨l, i, n⟩ ⟨hp, h1, h2, h3⟩
   dsimp only at hp h1 h2 h3 ⊢
   have hl := hp.length_eq
   refine Ok.ited (fun hn5 => ?_) fun _ => Ok.ret hp
   refine Ok.bind (P := fun k : Int => i <= k /\ k <= b) ?_ fun k hk => ?_
   · refine Ok.bind (ziS (j := b - 1) (by omega) (by omega) fun k g1 g2 => ?_) fun k hk => Ok.ret hk
     simp (disch := omega) only [Cc, if_true, if_false]
     (repeat' (first | (with_reducible refine Ok.bc ?_ ?_; (· exact (by first | rfl | (simp only [Tc]; omega)))) | (with_reducible refine Ok.chk ?_ ?_; (· exact (by first | rfl | (simp only [Tc]; omega))))))
     refine Ok.cmpI fun r => ?_
     refine Ok.ite (fun hv => ?_) fun hv => Ok.ret rfl
     have := zfL hv
     exact Ok.bs (Ok.ret ⟨by omega, rfl⟩)
   obtain ⟨k1, k2⟩ := hk
   refine Ok.ited (fun _ => Ok.ret hp) fun hkb => ?_
   rw [zac (x := b - a) (by omega) (by omega), zac (x := k - 1) (by omega) (by omega), zac (x := k - a) (by omega) (by omega), zac (x := b - k) (by omega) (by omega), zac (x := k + 1) (by omega) (by omega)]
   refine Ok.ited (fun _ => Ok.ret hp) fun h50 => ?_
   (repeat' (first | (with_reducible refine Ok.bc ?_ ?_; (· exact (by first | rfl | (simp only [Tc]; omega)))) | (with_reducible refine Ok.chk ?_ ?_; (· exact (by first | rfl | (simp only [Tc]; omega))))))
   have hs := za0 (i := k) (j := k - 1) hp (by omega) (by omega)
   generalize (l.set k.toNat (l.getD (k - 1).toNat P0)).set (k - 1).toNat (l.getD k.toNat P0) = l1 at hs
   refine Ok.bind (P := fun r => r.Perm d) ?_ fun l2 hl2 => ?_
   · refine Ok.ited (fun _ => ?_) fun _ => Ok.ret hs
     refine Ok.bind (P := fun r => r.Perm d) ?_ fun r hr => Ok.ret hr
     refine Ok.bind (P := fun r => r.Perm d) ?_ fun r hr => Ok.ret hr
     refine zal (fun s : List Pr × Int => s.1.Perm d /\ 0 <= s.2 /\ s.2 < b) (fun s => s.2.toNat) ?_ ⟨hs, by dsimp only; omega, by dsimp only; omega⟩
     rintro ⟨m, j⟩ ⟨hq, g1, g2⟩
     dsimp only at hq g1 g2 ⊢
     have hlm := hq.length_eq
     refine Ok.ited (fun hj => ?_) fun _ => Ok.ret hq
     simp (disch := omega) only [Cc, if_true, if_false]
     (repeat' (first | (with_reducible refine Ok.bc ?_ ?_; (· exact (by first | rfl | (simp only [Tc]; omega)))) | (with_reducible refine Ok.chk ?_ ?_; (· exact (by first | rfl | (simp only [Tc]; omega))))))
     refine Ok.cmp1 fun r => ?_
     refine Ok.ite (fun _ => Ok.ret hq) fun _ => ?_
     (repeat' (first | (with_reducible refine Ok.bc ?_ ?_; (· exact (by first | rfl | (simp only [Tc]; omega)))) | (with_reducible refine Ok.chk ?_ ?_; (· exact (by first | rfl | (simp only [Tc]; omega))))))
     exact Ok.ret ⟨⟨za0 hq (by omega) (by omega), by dsimp only; omega, by dsimp only; omega⟩, by dsimp only; omega⟩
   refine Ok.bind (P := fun r => r.Perm d) ?_ fun l3 hl3 => ?_
   · refine Ok.ited (fun _ => ?_) fun _ => Ok.ret hl2
     refine Ok.bind (P := fun r => r.Perm d) ?_ fun r hr => Ok.ret hr
     refine Ok.bind (P := fun r => r.Perm d) ?_ fun r hr => Ok.ret hr
     refine zal (fun s : List Pr × Int => s.1.Perm d /\ a + 1 <= s.2 /\ s.2 <= b + 1) (fun s => (b + 1 - s.2).toNat) ?_ ⟨hl2, by dsimp only; omega, by dsimp only; omega⟩
     rintro ⟨m, j⟩ ⟨hq, g1, g2⟩
     dsimp only at hq g1 g2 ⊢
     have hlm := hq.length_eq
     refine Ok.ited (fun hj => ?_) fun _ => Ok.ret hq
     simp (disch := omega) only [Cc, if_true, if_false]
     (repeat' (first | (with_reducible refine Ok.bc ?_ ?_; (· exact (by first | rfl | (simp only [Tc]; omega)))) | (with_reducible refine Ok.chk ?_ ?_; (· exact (by first | rfl | (simp only [Tc]; omega))))))
     refine Ok.cmp1 fun r => ?_
     refine Ok.ite (fun _ => Ok.ret hq) fun _ => ?_
     (repeat' (first | (with_reducible refine Ok.bc ?_ ?_; (· exact (by first | rfl | (simp only [Tc]; omega)))) | (with_reducible refine Ok.chk ?_ ?_; (· exact (by first | rfl | (simp only [Tc]; omega))))))
     exact Ok.ret ⟨⟨za0 hq (by omega) (by omega), by dsimp only; omega, by dsimp only; omega⟩, by dsimp only; omega⟩
   rw [zac (by omega) (by omega)]
   exact Ok.ret ⟨⟨hl3, by dsimp only; omega, by dsimp only; omega, by dsimp only; omega⟩, by dsimp only; omega⟩
 · rcases x with y | y
   · exact Ok.ret hx
   · exact Ok.ret hx
theorem lv1 : slices_pdqsortCmpFunc_impl_Pair' = pdqF slices_pdqsortCmpFunc_impl_Pair := rfl
theorem lv2 : slices_pdqsortCmpFunc_impl_Pair'' = pdqF slices_pdqsortCmpFunc_impl_Pair' := rfl
theorem lv3 : slices_pdqsortCmpFunc_impl_Pair''' = pdqF slices_pdqsortCmpFunc_impl_Pair'' := rfl
theorem lv4 : slices_pdqsortCmpFunc_impl_Pair'''' = pdqF slices_pdqsortCmpFunc_impl_Pair''' := rfl
theorem lv5 : slices_pdqsortCmpFunc_impl_Pair''''' = pdqF slices_pdqsortCmpFunc_impl_Pair'''' := rfl
theorem lv6 : slices_pdqsortCmpFunc_impl_Pair'''''' = pdqF slices_pdqsortCmpFunc_impl_Pair''''' := rfl
theorem lv7 : slices_pdqsortCmpFunc_impl_Pair''''''' = pdqF slices_pdqsortCmpFunc_impl_Pair'''''' := rfl
theorem lv8 : slices_pdqsortCmpFunc_impl_Pair'''''''' = pdqF slices_pdqsortCmpFunc_impl_Pair''''''' := rfl
theorem lv9 : slices_pdqsortCmpFunc_impl_Pair''''''''' = pdqF slices_pdqsortCmpFunc_impl_Pair'''''''' := rfl
def Perms (f : List Pr -> Int -> Int -> Int -> Option (List Pr)) (N : Int) : Prop := ∀ (d : List Pr) (a b lim : Int), 0 <= a -> a <= b -> b <= d.length -> (d.length : Int) < 4096 -> b - a <= N -> 0 <= lim -> lim <= 100 -> Ok (f d a b lim) (fun r => r.Perm d)
theorem zjm : Perms slices_pdqsortCmpFunc_impl_Pair 12 := by
 intro d a b lim ha hab hb hn hN h0 h1
 unfold slices_pdqsortCmpFunc_impl_Pair
 refine Ok.bind (P := fun r => r.Perm d) ?_ fun r hr => Ok.ret hr
 refine zal (fun s : List Pr × Int × Int => s = (d, a, lim)) (fun s => 0) ?_ rfl
 rintro s rfl
 dsimp only
 have e : i64 (b - a) = b - a := zac (by omega) (by omega)
 rw [e, if_pos (zbr hN)]
 exact Ok.bind (zfV ha hb (by omega) hab) fun r hr => Ok.ret hr
theorem zb8 {f : List Pr -> Int -> Int -> Int -> Option (List Pr)} {N : Int} (hf : Perms f N) (hN0 : 12 <= N) : Perms (pdqF f) (2 * N + 1) := by
 intro d a b lim ha hab hb hn hN h0 h1
 unfold pdqF
 refine Ok.bind (P := fun r => r.Perm d) ?_ fun r hr => Ok.ret hr
 refine zal (fun s : List Pr × Int × Int × Int × Bool × Bool => s.1.Perm d /\ 0 <= s.2.1 /\ s.2.1 <= s.2.2.1 /\ s.2.2.1 <= d.length /\ s.2.2.1 - s.2.1 <= 2 * N + 1 /\ 0 <= s.2.2.2.1 /\ s.2.2.2.1 <= 100) (fun s => (s.2.2.1 - s.2.1).toNat) ?_ ⟨List.Perm.refl _, ha, hab, hb, hN, h0, h1⟩
 rintro ⟨l, x, y, li, wb, wp⟩ ⟨hp, g1, g2, g3, g4, g5, g6⟩
 dsimp only at hp g1 g2 g3 g4 g5 g6 ⊢
 have hl := hp.length_eq
 have e0 : i64 (y - x) = y - x := zac (by omega) (by omega)
 have e1 : i64 (y - 1) = y - 1 := zac (by omega) (by omega)
 have e2 : i64 (x - 1) = x - 1 := zac (by omega) (by omega)
 have e3 : i64 (li - 1) = li - 1 := zac (by omega) (by omega)
 simp only [e0, e1, e2, e3]
 refine Ok.ited (fun _ => Ok.bind (zfV g1 (by omega) (by omega) g2) fun r hr => Ok.ret (hr.trans hp)) fun hbig => ?_
 refine Ok.ited (fun _ => Ok.bind (ziW g1 (by omega) (by omega) (by omega)) fun r hr => Ok.ret (hr.trans hp)) fun hli => ?_
 refine Ok.bind (P := fun s : List Pr × Int => s.1.Perm d /\ 0 <= s.2 /\ s.2 <= 100) ?_ fun s6 h6 => ?_
 · refine Ok.ite (fun _ => ?_) fun _ => Ok.ret ⟨hp, g5, g6⟩
   refine Ok.bind (ziz g1 (by omega) (by omega) g2) fun r hr => Ok.ret ⟨hr.trans hp, by dsimp only; omega, by dsimp only; omega⟩
 obtain ⟨l6, li6⟩ := s6
 obtain ⟨hp6, k1, k2⟩ := h6
 dsimp only at hp6 k1 k2 ⊢
 have hl6 := hp6.length_eq
 refine Ok.bind (zid g1 (by omega) (by omega) (by omega)) fun r7 h7 => ?_
 refine Ok.bind (P := fun s : List Pr × Int × Int => s.1.Perm d /\ x <= s.2.1 /\ s.2.1 < y) ?_ fun s9 h9 => ?_
 · refine Ok.ited (fun _ => ?_) fun _ => Ok.ret ⟨hp6, h7⟩
   refine Ok.bind (zjw g1 (by omega) (by omega) g2) fun r hr => ?_
   rw [zac (x := r7.1 - x) (by omega) (by omega), zac (by omega) (by omega)]
   exact Ok.ret ⟨hr.trans hp6, by dsimp only; omega, by dsimp only; omega⟩
 obtain ⟨l9, pv, ht⟩ := s9
 obtain ⟨hp9, p1, p2⟩ := h9
 dsimp only at hp9 p1 p2 ⊢
 have tail : ∀ l10 : List Pr, l10.Perm d -> Ok (chk (!decide ((0 : Int) < x) || ((decide ((0 : Int) <= x - 1)) && (decide (x - 1 < ((l10.length : Nat) : Int))))) <|
  chk (!decide ((0 : Int) < x) || ((decide ((0 : Int) <= pv)) && (decide (pv < ((l10.length : Nat) : Int))))) <|
  (if decide ((0 : Int) < x) then impl_sortPairs_1 (l10.getD (x - 1).toNat (0, 0)).1 (l10.getD (x - 1).toNat (0, 0)).2 (l10.getD pv.toNat (0, 0)).1 (l10.getD pv.toNat (0, 0)).2 else some 0).bind fun r16 =>
  if (if decide ((0 : Int) < x) then !decide (r16 < 0) else false) = true then
   (slices_partitionEqualCmpFunc_impl_Pair l10 x y pv).bind fun r18 => some (.inl (r18.1, r18.2, y, li6, wb, wp))
  else
   (slices_partitionCmpFunc_impl_Pair l10 x y pv).bind fun r19 =>
    (if decide ((i64 (r19.2.1 - x)) < (i64 (y - r19.2.1))) then
     ((f r19.1 x r19.2.1 li6).bind fun r20 => some (r20, (i64 (r19.2.1 + 1)), y, decide ((i64 (Int.tdiv (y - x) 8)) <= (i64 (r19.2.1 - x)))))
    else
     ((f r19.1 (i64 (r19.2.1 + 1)) y li6).bind fun r21 => some (r21, x, r19.2.1, decide ((i64 (Int.tdiv (y - x) 8)) <= (i64 (y - r19.2.1)))))).bind fun s22 =>
    some (.inl (s22.1, s22.2.1, s22.2.2.1, li6, s22.2.2.2, r19.2.2)))
  (fun o : (List Pr × Int × Int × Int × Bool × Bool) ⊕ List Pr => match o with
   | .inl s' => (s'.1.Perm d /\ 0 <= s'.2.1 /\ s'.2.1 <= s'.2.2.1 /\ s'.2.2.1 <= d.length /\ s'.2.2.1 - s'.2.1 <= 2 * N + 1 /\ 0 <= s'.2.2.2.1 /\ s'.2.2.2.1 <= 100) /\ (s'.2.2.1 - s'.2.1).toNat < (y - x).toNat
   | .inr x => x.Perm d) := by
  intro l10 hp10
  have hl10 := hp10.length_eq
  (repeat' (first | (with_reducible refine Ok.bc ?_ ?_; (· exact (by first | rfl | (simp only [Tc]; omega)))) | (with_reducible refine Ok.chk ?_ ?_; (· exact (by first | rfl | (simp only [Tc]; omega))))))
  refine Ok.cmpI fun r => ?_
  refine Ok.ite (fun _ => ?_) fun _ => ?_
  · refine Ok.bind (zhG g1 (by omega) (by omega) p1 p2) fun r18 h18 => ?_
    exact Ok.ret ⟨⟨h18.1.trans hp10, by dsimp only; omega, by dsimp only; omega, by dsimp only; omega, by dsimp only; omega, by dsimp only; omega, by dsimp only; omega⟩, by dsimp only; omega⟩
  · refine Ok.bind (ziI g1 (by omega) (by omega) p1 p2) fun r19 h19 => ?_
    obtain ⟨l19, m, q⟩ := r19
    obtain ⟨hp19, m1, m2⟩ := h19
    dsimp only at hp19 m1 m2 ⊢
    have hl19 := (hp19.trans hp10).length_eq
    rw [zac (x := m - x) (by omega) (by omega), zac (x := y - m) (by omega) (by omega), zac (x := m + 1) (by omega) (by omega)]
    refine Ok.bind (P := fun s : List Pr × Int × Int × Bool => s.1.Perm d /\ 0 <= s.2.1 /\ s.2.1 <= s.2.2.1 /\ s.2.2.1 <= d.length /\ s.2.2.1 - s.2.1 < y - x) ?_ fun s22 h22 => ?_
    · refine Ok.ited (fun hlt => ?_) fun hlt => ?_
      · refine Ok.bind (hf l19 x m li6 g1 m1 (by omega) (by omega) (by omega) k1 k2) fun r20 h20 => ?_
        exact Ok.ret ⟨h20.trans (hp19.trans hp10), by dsimp only; omega, by dsimp only; omega, by dsimp only; omega, by dsimp only; omega⟩
      · refine Ok.bind (hf l19 (m + 1) y li6 (by omega) (by omega) (by omega) (by omega) (by omega) k1 k2) fun r20 h20 => ?_
        exact Ok.ret ⟨h20.trans (hp19.trans hp10), by dsimp only; omega, by dsimp only; omega, by dsimp only; omega, by dsimp only; omega⟩
    · obtain ⟨t1, t2, t3, t4, t5⟩ := h22
      exact Ok.ret ⟨⟨t1, t2, t3, t4, by dsimp only; omega, k1, k2⟩, by dsimp only; omega⟩
 refine Ok.ite (fun _ => ?_) fun _ => (tail l9 hp9).mono fun o ho => by cases o <;> exact ho
 have hl9 := hp9.length_eq
 refine Ok.bind (ziF g1 (by omega) (by omega) (by omega)) fun r20 h20 => ?_
 refine Ok.ite (fun _ => Ok.ret (h20.trans hp9)) fun _ => (tail r20.1 (h20.trans hp9)).mono fun o ho => by cases o <;> exact ho
theorem zjy : Perms slices_pdqsortCmpFunc_impl_Pair''''''''' 6655 := by
 have h1 := zb8 zjm (by omega)
 rw [<- lv1] at h1
 have h2 := zb8 h1 (by omega)
 rw [<- lv2] at h2
 have h3 := zb8 h2 (by omega)
 rw [<- lv3] at h3
 have h4 := zb8 h3 (by omega)
 rw [<- lv4] at h4
 have h5 := zb8 h4 (by omega)
 rw [<- lv5] at h5
 have h6 := zb8 h5 (by omega)
 rw [<- lv6] at h6
 have h7 := zb8 h6 (by omega)
 rw [<- lv7] at h7
 have h8 := zb8 h7 (by omega)
 rw [<- lv8] at h8
 have h9 := zb8 h8 (by omega)
 rw [<- lv9] at h9
 exact h9
noncomputable def bl (n : Nat) : Bool := match math_bits_Len (u64 (n : Int)) with
 | some m => decide (0 <= m) && decide (m <= 100)
 | none => false
theorem zjh : ∀ n, n < 4096 -> bl n = true := by
 have : (List.range 4096).all bl = true := by decide +kernel
 intro n h1
 exact List.all_eq_true.1 this n (List.mem_range.2 h1)
theorem zhU {n : Nat} (h1 : n < 4096) : Ok (math_bits_Len (u64 (n : Int))) (fun m => 0 <= m /\ m <= 100) := by
 have := zjh n h1
 unfold bl at this
 cases h : math_bits_Len (u64 (n : Int)) with
 | none => rw [h] at this; cases this
 | some m =>
   rw [h] at this
   simp only [Bool.and_eq_true, decide_eq_true_eq] at this
   exact ⟨m, rfl, this⟩
theorem zgn {d : List Pr} (hn : d.length < 4096) : Ok (slices_SortFunc__impl_Pair_impl_Pair d) (fun r => r.Perm d) := by
 unfold slices_SortFunc__impl_Pair_impl_Pair
 refine Ok.bind (zhU hn) fun m hm => ?_
 exact Ok.bind (zjy d 0 d.length m (by omega) (by omega) (by omega) (by omega) (by omega) hm.1 hm.2) fun r hr => Ok.ret hr
theorem mem_setD {l : List Pr} {k : Nat} {v x : Pr} (h : x ∈ l.set k v) : x = v \/ x ∈ l := by
 rcases List.mem_or_eq_of_mem_set h with h | h
 · exact .inr h
 · exact .inl h
theorem zgU {l : List Pr} (hn : l.length < 4096) : Ok (slices_Compact__impl_Pair_impl_Pair l) (fun r => 0 <= r.2 /\ r.2 <= r.1.length /\ r.1.length = l.length /\ ∀ x ∈ r.1.take r.2.toNat, x ∈ l) := by
 unfold slices_Compact__impl_Pair_impl_Pair
 have hself : (0 : Int) <= ((l.length : Nat) : Int) /\ ((l.length : Nat) : Int) <= l.length /\ l.length = l.length /\ ∀ x ∈ l.take (Int.toNat ((l.length : Nat) : Int)), x ∈ l :=
  ⟨by omega, by omega, rfl, fun x hx => List.mem_of_mem_take hx⟩
 refine Ok.ited (fun _ => Ok.ret hself) fun h2 => ?_
 dsimp only
 refine Ok.bind (P := fun x : Unit ⊕ (List Pr × Int) => match x with | .inl _ => True | .inr r => 0 <= r.2 /\ r.2 <= r.1.length /\ r.1.length = l.length /\ ∀ x ∈ r.1.take r.2.toNat, x ∈ l) ?_ fun x hx => ?_
 · refine zal (fun i : Int => 1 <= i /\ i <= l.length) (fun i => (l.length - i).toNat) ?_ ⟨by omega, by omega⟩
   rintro i ⟨g1, g2⟩
   refine Ok.ited (fun hc => ?_) fun hc => Ok.ret trivial
   rw [zac (x := i - 1) (by omega) (by omega), zac (x := i + 1) (by omega) (by omega)]
   (repeat' (first | (with_reducible refine Ok.bc ?_ ?_; (· exact (by first | rfl | (simp only [Tc]; omega)))) | (with_reducible refine Ok.chk ?_ ?_; (· exact (by first | rfl | (simp only [Tc]; omega))))))
   refine Ok.ite (fun _ => ?_) fun _ => Ok.ret ⟨⟨by omega, by omega⟩, by omega⟩
   (repeat' (first | (with_reducible refine Ok.bc ?_ ?_; (· exact (by first | rfl | (simp only [Tc]; omega)))) | (with_reducible refine Ok.chk ?_ ?_; (· exact (by first | rfl | (simp only [Tc]; omega))))))
   refine Ok.bind (P := fun s : List Pr × Int => s.1.length = l.length /\ (∀ x ∈ s.1, x ∈ l) /\ 0 <= s.2 /\ s.2 <= l.length) ?_ fun s hs => ?_
   · refine Ok.bind (P := fun s : List Pr × Int => s.1.length = l.length /\ (∀ x ∈ s.1, x ∈ l) /\ 0 <= s.2 /\ s.2 <= l.length) ?_ fun s hs => Ok.ret hs
     refine zal (fun s : List Pr × Int × Int => s.1.length = l.length /\ (∀ x ∈ s.1, x ∈ l) /\ 0 <= s.2.1 /\ 1 <= s.2.2 /\ s.2.1 <= i + s.2.2 - 1 /\ s.2.2 <= l.length - i) (fun s => (l.length - s.2.2).toNat) ?_ ⟨rfl, fun _ h => h, by dsimp only; omega, by dsimp only; omega, by dsimp only; omega, by dsimp only; omega⟩
     rintro ⟨m, k, q⟩ ⟨hl, hm, h3, h4, h5, h6⟩
     dsimp only at hl hm h3 h4 h5 h6 ⊢
     refine Ok.ited (fun hq => ?_) fun hq => Ok.ret ⟨hl, hm, h3, by dsimp only; omega⟩
     rw [zac (x := q - 1) (by omega) (by omega), zac (x := k + 1) (by omega) (by omega), zac (x := q + 1) (by omega) (by omega)]
     refine Ok.bind (P := fun s : List Pr × Int => s.1.length = l.length /\ (∀ x ∈ s.1, x ∈ l) /\ 0 <= s.2 /\ s.2 <= k + 1) ?_ fun s hs => ?_
     · (repeat' (first | (with_reducible refine Ok.bc ?_ ?_; (· exact (by first | rfl | (simp only [Tc]; omega)))) | (with_reducible refine Ok.chk ?_ ?_; (· exact (by first | rfl | (simp only [Tc]; omega))))))
       refine Ok.bind (P := fun s : List Pr × Int => s.1.length = l.length /\ (∀ x ∈ s.1, x ∈ l) /\ 0 <= s.2 /\ s.2 <= k + 1) ?_ fun s hs => Ok.ret hs
       refine Ok.ite (fun _ => ?_) fun _ => Ok.ret ⟨hl, hm, h3, by dsimp only; omega⟩
       (repeat' (first | (with_reducible refine Ok.bc ?_ ?_; (· exact (by first | rfl | (simp only [Tc]; omega)))) | (with_reducible refine Ok.chk ?_ ?_; (· exact (by first | rfl | (simp only [Tc]; omega))))))
       refine Ok.ret ⟨by simp only [List.length_set]; exact hl, fun x hx => ?_, by dsimp only; omega, by dsimp only; omega⟩
       rcases mem_setD hx with rfl | hx
       · exact hm _ (zcl (by omega) _)
       · exact hm x hx
     · obtain ⟨t1, t2, t3, t4⟩ := hs
       exact Ok.ret ⟨⟨t1, t2, t3, by dsimp only; omega, by dsimp only; omega, by dsimp only; omega⟩, by dsimp only; omega⟩
   · obtain ⟨m, k⟩ := s
     obtain ⟨hl, hm, h3, h4⟩ := hs
     dsimp only at hl hm h3 h4 ⊢
     refine Ok.chk (by simp only [Bool.and_eq_true, decide_eq_true_eq]; omega) ?_
     have e0 : Int.toNat 0 = 0 := rfl
     have hlen : ((m.take k.toNat).drop (Int.toNat 0) ++ (List.replicate (Int.toNat ((m.length : Int) - k)) P0 ++ (m.take (Int.toNat (m.length : Int))).drop (Int.toNat (k + ((m.length : Int) - k))))).length = l.length := by
      simp only [List.length_append, List.length_drop, List.length_take, List.length_replicate, e0]; omega
     have htake : ((m.take k.toNat).drop (Int.toNat 0) ++ (List.replicate (Int.toNat ((m.length : Int) - k)) P0 ++ (m.take (Int.toNat (m.length : Int))).drop (Int.toNat (k + ((m.length : Int) - k))))).take k.toNat = m.take k.toNat := by
      rw [e0, List.drop_zero, List.take_append_of_le_length (by rw [List.length_take]; omega)]
      rw [List.take_of_length_le (by rw [List.length_take]; omega)]
     refine Ok.chk (by simp only [Bool.and_eq_true, decide_eq_true_eq]; rw [hlen]; omega) ?_
     refine Ok.ret ⟨h3, by dsimp only; rw [hlen]; omega, hlen, fun x hx => ?_⟩
     dsimp only at hx
     rw [htake] at hx
     exact hm x (List.mem_of_mem_take hx)
 · rcases x with y | y
   · exact Ok.ret hself
   · exact Ok.ret hx
theorem zf6 {l : List Pr} (hn : l.length < 4096) : Ok (impl_sortPairs l) (fun r => 0 <= r.2 /\ r.2 <= r.1.length /\ r.1.length = l.length /\ ∀ x ∈ r.1.take r.2.toNat, x ∈ l) := by
 unfold impl_sortPairs
 refine Ok.bind (zgn hn) fun m hm => ?_
 have hl := hm.length_eq
 refine Ok.bind (zgU (by omega)) fun r hr => Ok.ret ⟨hr.1, hr.2.1, by dsimp only; omega, fun x hx => hm.mem_iff.1 (hr.2.2.2 x hx)⟩
def Ris (l : List Int) : Prop := ∀ k, k < l.length -> 0 <= l.getD k 0 /\ l.getD k 0 <= 11 /\ (0 < k -> l.getD (k - 1) 0 < l.getD k 0)
theorem Ris.ge {l : List Int} (h : Ris l) : ∀ k, k < l.length -> (k : Int) <= l.getD k 0
 | 0, hk => (h 0 hk).1
 | k + 1, hk => by
   have h1 := h.ge k (by omega)
   have h2 := (h (k + 1) hk).2.2 (by omega)
   simp only [Nat.add_sub_cancel] at h2
   omega
theorem Ris.len {l : List Int} (h : Ris l) : l.length <= 12 := by
 by_cases h0 : l.length = 0
 · omega
 · have h1 := h.ge (l.length - 1) (by omega)
   have h2 := (h (l.length - 1) (by omega)).2.1
   omega
def put : List Int -> Int -> List Int
 | [], n => [n]
 | y :: r, n => if y < n then y :: put r n else n :: y :: r
def putE : List Int -> Int -> List Int
 | [], n => [n]
 | y :: r, n => if y <= n then y :: putE r n else n :: y :: r
abbrev Asc (l : List Int) : Prop := l.Pairwise (· <= ·)
theorem zeD : ∀ (l : List Int) (n : Int), (put l n).length = l.length + 1
 | [], _ => rfl
 | y :: r, n => by unfold put; split <;> simp [zeD r n]
theorem mem_put {x n : Int} : ∀ {l : List Int}, x ∈ put l n ↔ x = n \/ x ∈ l
 | [] => by simp [put]
 | y :: r => by
   unfold put; split
   · rw [List.mem_cons, mem_put, List.mem_cons]; constructor <;> rintro (h | h | h) <;> simp [h]
   · simp
theorem zgC {n : Int} : ∀ {l : List Int}, Asc l -> (∀ x ∈ l, n <= x) -> putE l n = n :: l
 | [], _, _ => rfl
 | z :: r, h, k => by
   unfold putE
   have hz := k z (List.mem_cons_self ..)
   split
   · have : z = n := by omega
     subst this
     rw [zgC h.of_cons fun x hx => k x (List.mem_cons_of_mem _ hx)]
   · rfl
theorem zhR {n : Int} : ∀ {l : List Int}, Asc l -> putE l n = put l n
 | [], _ => rfl
 | y :: r, h => by
   unfold putE put
   by_cases c : y < n
   · rw [if_pos (by omega), if_pos c, zhR h.of_cons]
   · rw [if_neg c]
     by_cases e : y = n
     · subst e
       rw [if_pos (by omega), zgC h.of_cons fun x hx => List.rel_of_pairwise_cons h hx]
     · rw [if_neg (by omega)]
theorem zf7 {x y : Int} : ∀ {l : List Int}, Asc (l ++ [y]) -> putE (l ++ [y]) x = if x < y then putE l x ++ [y] else l ++ [y, x]
 | [], _ => by
   simp only [List.nil_append, putE]
   by_cases c : x < y
   · rw [if_pos c, if_neg (by omega)]; rfl
   · rw [if_neg c, if_pos (by omega)]
 | z :: r, h => by
   have h' : Asc (r ++ [y]) := List.Pairwise.of_cons h
   have hz : z <= y := List.rel_of_pairwise_cons h (by simp)
   simp only [List.cons_append, putE]
   by_cases c : z <= x
   · rw [if_pos c, if_pos c, zf7 h']
     split <;> rfl
   · rw [if_neg c, if_pos (by omega), if_neg c]; rfl
theorem zh8 {n : Int} : ∀ {l : List Int}, Asc l -> Asc (put l n)
 | [], _ => by simp [put]
 | y :: r, h => by
   unfold put
   split
   · refine List.Pairwise.cons (fun x hx => ?_) (zh8 h.of_cons)
     rcases mem_put.1 hx with rfl | hx
     · omega
     · exact List.rel_of_pairwise_cons h hx
   · refine List.Pairwise.cons (fun x hx => ?_) h
     rcases List.mem_cons.1 hx with rfl | hx
     · omega
     · have := List.rel_of_pairwise_cons h hx; omega
def srt (l : List Int) : List Int := l.foldl put []
theorem ziq (l : List Int) (x : Int) : srt (l ++ [x]) = put (srt l) x := by simp [srt]
theorem zhN (l : List Int) : Asc (srt l) := by
 have : ∀ (l acc : List Int), Asc acc -> Asc (l.foldl put acc) := by
  intro l
  induction l with
  | nil => intro acc h; exact h
  | cons x l ih => intro acc h; exact ih _ (zh8 h)
 exact this l [] .nil
theorem zdk (l : List Int) : (srt l).length = l.length := by
 have : ∀ (l acc : List Int), (l.foldl put acc).length = acc.length + l.length := by
  intro l
  induction l with
  | nil => intro acc; simp
  | cons x l ih => intro acc; simp only [List.foldl_cons, ih, zeD, List.length_cons]; omega
 simpa [srt] using this l []
theorem zdB (x y : Int) : cmp_Less_int x y = some (decide (x < y)) := by
 unfold cmp_Less_int cmp_isNaN_int
 by_cases c : x < y <;> simp [c]
theorem zhr (A B : List Int) (y x : Int) : (A ++ y :: x :: B).getD A.length 0 = y := by
 rw [List.getD_eq_getElem?_getD, List.getElem?_append_right (by omega)]; simp
theorem zhn (A B : List Int) (y x : Int) : (A ++ y :: x :: B).getD (A.length + 1) 0 = x := by
 rw [List.getD_eq_getElem?_getD, List.getElem?_append_right (by omega)]; simp
theorem zin (A B : List Int) (y x : Int) : ((A ++ y :: x :: B).set (A.length + 1) y).set A.length x = A ++ x :: y :: B := by
 rw [List.set_append_right _ _ (by omega), List.set_append_right _ _ (by omega)]
 simp
theorem zfJ {f : List Int × Int -> Option ((List Int × Int) ⊕ List Int)}
 (h0 : ∀ d : List Int, f (d, 0) = some (.inr d))
 (h1 : ∀ (A B : List Int) (y x : Int), A.length + B.length <= 1000000 -> f (A ++ y :: x :: B, ((A.length + 1 : Nat) : Int)) = some (if x < y then .inl (A ++ x :: y :: B, (A.length : Int)) else .inr (A ++ y :: x :: B))) :
 ∀ (n : Nat) (A : List Int) (x : Int) (B : List Int), A.length = n -> A.length + B.length <= 1000000 -> Asc A -> loopM f (A ++ x :: B, (n : Int)) = some (putE A x ++ B)
 | 0, A, x, B, hn, _, _ => by
   have : A = [] := List.length_eq_zero_iff.1 hn
   subst this
   rw [zaz, show ((0 : Nat) : Int) = 0 from rfl, h0]; rfl
 | n + 1, A, x, B, hn, hl, hs => by
   rcases List.eq_nil_or_concat A with rfl | ⟨A', y, rfl⟩
   · simp at hn
   · simp only [List.concat_eq_append] at hs hl hn ⊢
     have e : A' ++ [y] ++ x :: B = A' ++ y :: x :: B := by simp
     have el : (A' ++ [y]).length = A'.length + 1 := by simp
     rw [el] at hl
     have hn' : n = A'.length := by omega
     subst hn'
     rw [e, zaz, h1 A' B y x (by omega), zf7 hs]
     by_cases c : x < y
     · rw [if_pos c, if_pos c]
       dsimp only
       rw [zfJ h0 h1 A'.length A' x (y :: B) rfl (by simp only [List.length_cons]; omega) (List.pairwise_append.1 hs).1]
       simp
     · rw [if_neg c, if_neg c]
       simp
theorem ziy {v : List Int} (hv : v.length <= 1000000) : slices_insertionSortOrdered_int v 0 v.length = some (srt v) := by
 unfold slices_insertionSortOrdered_int
 by_cases h0 : v.length = 0
 · have : v = [] := List.length_eq_zero_iff.1 h0
   subst this
   refine zag (zag ?_ rfl) rfl
   rw [zaz]; rfl
 · have hz : ∀ k, k <= v.length -> (srt (v.take k) ++ v.drop k).length = v.length := by
    intro k hk
    rw [List.length_append, zdk, List.length_take, List.length_drop]; omega
   refine zag (zag (zbG (fun k : Nat => (srt (v.take (k + 1)) ++ v.drop (k + 1), ((k + 1 : Nat) : Int))) (v.length - 1) (srt v) ?_ ?_ ?_) rfl) rfl
   · have : srt (v.take 1) ++ v.drop 1 = v := by
      cases v with
      | nil => simp at h0
      | cons x r => simp [srt, put]
     rw [this]; rfl
   · intro k hk
     have hk1 : ((k + 1 : Nat) : Int) < v.length := by omega
     have hs := zhw v 0 (show k + 1 < v.length by omega)
     have hd : v.drop (k + 1) = v.getD (k + 1) 0 :: v.drop (k + 2) := by
      rw [List.drop_eq_getElem_cons (by omega), List.getD_eq_getElem?_getD, List.getElem?_eq_getElem (by omega)]; rfl
     have hl : (srt (v.take (k + 1))).length = k + 1 := by rw [zdk, List.length_take]; omega
     have hi := zac (x := ((k + 1 : Nat) : Int) + 1) (by omega) (by omega)
     simp only [zbr hk1, if_true]
     refine zag (zag (a := srt (v.take (k + 2)) ++ v.drop (k + 2)) (zag ?_ rfl) rfl) ?_
     · rw [hd, hs, ziq, <- zhR (zhN _)]
       refine zfJ ?_ ?_ (k + 1) (srt (v.take (k + 1))) (v.getD (k + 1) 0) (v.drop (k + 2)) hl (by rw [hl, List.length_drop]; omega) (zhN _)
       · intro d
         simp
       · intro A B y x hAB
         have e1 : i64 (((A.length + 1 : Nat) : Int) - 1) = (A.length : Int) := by rw [zac (by omega) (by omega)]; omega
         have e2 : (A ++ y :: x :: B).length = A.length + B.length + 2 := by simp; omega
         have e3 : ((A ++ y :: x :: B).set (A.length + 1) y).length = A.length + B.length + 2 := by simp; omega
         have g1 := zhr A B y x
         have g2 := zhn A B y x
         have g3 := zin A B y x
         obtain ⟨D, hD⟩ : ∃ D, A ++ y :: x :: B = D := ⟨_, rfl⟩
         rw [hD] at e2 e3 g1 g2 g3
         have c1 : (0 : Int) < ((A.length + 1 : Nat) : Int) := by omega
         have c2 : (0 : Int) <= ((A.length + 1 : Nat) : Int) := by omega
         have c3 : ((A.length + 1 : Nat) : Int) < (D.length : Int) := by omega
         have c4 : (0 : Int) <= (A.length : Int) := by omega
         have c5 : (A.length : Int) < (D.length : Int) := by omega
         have c6 : (A.length : Int) < ((D.set (A.length + 1) y).length : Int) := by omega
         simp only [hD, e1, zbr c1, zbr c2, zbr c3, zbr c4, zbr c5, Bool.and_self, Bool.or_true, Bool.not_true, zaj, if_true, Int.toNat_natCast, g1, g2, zdB, bind_some]
         by_cases c : x < y
         · simp only [c, decide_true, if_true, zbr c6, Bool.and_self, zaj, g3, bind_some]
         · simp only [c, decide_false, Bool.false_eq_true, if_false]
     · rw [hi]; rfl
   · have : v.length - 1 + 1 = v.length := by omega
     simp [this]
theorem zhK (n : Int) : IntKind.u64.wrap n = n % 18446744073709551616 := by simp [IntKind.wrap, IntKind.bits, IntKind.signed]
set_option maxRecDepth 20000 in
theorem zgx {x : Int} (h0 : 0 <= x) (h1 : x < 256) : Ok (math_bits_Len x) (fun _ => True) := by
 unfold math_bits_Len math_bits_Len64
 rw [if_neg (by simp)]
 refine Ok.bind (P := fun _ => True) ?_ fun r _ => Ok.ret trivial
 refine Ok.bind (P := fun s => s.1 = x) ?_ fun s0 e0 => ?_
 · rw [if_neg (by simp; omega)]; exact Ok.ret rfl
 refine Ok.bind (P := fun s => s.1 = x) ?_ fun s1 e1 => ?_
 · rw [if_neg (by simp; omega)]; exact Ok.ret e0
 refine Ok.bind (P := fun s => s.1 = x) ?_ fun s2 e2 => ?_
 · rw [if_neg (by simp; omega)]; exact Ok.ret e1
 have e3 : u8 s2.1 = x := by rw [e2]; unfold u8; rw [IntKind.wrap_u8]; omega
 rw [e3]
 refine Ok.chk ?_ (Ok.ret trivial)
 refine Bool.and_eq_true_iff.2 ⟨decide_eq_true h0, decide_eq_true ?_⟩
 have : ∀ n : Nat, n = 256 -> x < (n : Int) := fun n hn => by omega
 exact this _ (by decide)
theorem zep {v : List Int} (hv : v.length <= 12) : slices_Sort__int_int v = some (srt v) := by
 unfold slices_Sort__int_int
 have e : u64 ((v.length : Nat) : Int) = (v.length : Int) := by unfold u64; rw [zhK]; omega
 rw [e]
 obtain ⟨r, hr, _⟩ := zgx (x := (v.length : Int)) (by omega) (by omega)
 rw [hr, bind_some]
 refine zag ?_ rfl
 unfold slices_pdqsortOrdered_int
 refine zag ?_ rfl
 rw [zaz]
 have e2 : i64 ((v.length : Int) - 0) = (v.length : Int) := by rw [zac (by omega) (by omega)]; omega
 rw [e2, if_pos (by simp; omega), ziy (by omega)]
 rfl
abbrev Op3 := Int × Int × Tx
abbrev O0 : Op3 := (0, (0, []))
def Conf (l : List Op3) (p : Pr) : Prop := ∃ i j : Nat, i < j /\ j < l.length /\ (l.getD i O0).2.1 = p.1 /\ (l.getD j O0).2.1 = p.2 /\ p.1 ≠ p.2 /\ (l.getD i O0).2.2 ≠ [] /\ (l.getD i O0).2.2 = (l.getD j O0).2.2 /\ ((l.getD i O0).1 = 2 \/ (l.getD j O0).1 = 2)
theorem zfQ {l : List Op3} (hn : l.length <= 60) : Ok (impl_conflicts l) (fun r => r.1.length <= 3600 /\ 0 <= r.2 /\ r.2 <= r.1.length /\ ∀ x ∈ r.1.take r.2.toNat, Conf l x) := by
 unfold impl_conflicts
 refine Ok.bind (P := fun o : List Pr => o.length <= 3600 /\ ∀ x ∈ o, Conf l x) ?_ fun o ho => ?_
 · refine Ok.bind (P := fun o : List Pr => o.length <= 3600 /\ ∀ x ∈ o, Conf l x) ?_ fun o ho => Ok.ret ho
   refine zal (fun s : List Pr × Int => 0 <= s.2 /\ s.2 <= l.length /\ (s.1.length : Int) <= 60 * s.2 /\ ∀ x ∈ s.1, Conf l x) (fun s => (l.length - s.2).toNat) ?_ ⟨by dsimp only; omega, by dsimp only; omega, by dsimp only; simp, by simp⟩
   rintro ⟨o, j⟩ ⟨g1, g2, g3, g4⟩
   dsimp only at g1 g2 g3 g4 ⊢
   refine Ok.ited (fun hc => ?_) fun hc => Ok.ret ⟨by omega, g4⟩
   rw [zac (x := j + 1) (by omega) (by omega)]
   refine Ok.bind (P := fun o' : List Pr => (o'.length : Int) <= o.length + j /\ ∀ x ∈ o', Conf l x) ?_ fun o' ho => ?_
   · (repeat' (first | (with_reducible refine Ok.bc ?_ ?_; (· exact (by first | rfl | (simp only [Tc]; omega)))) | (with_reducible refine Ok.chk ?_ ?_; (· exact (by first | rfl | (simp only [Tc]; omega))))))
     refine Ok.bind (P := fun o' : List Pr => (o'.length : Int) <= o.length + j /\ ∀ x ∈ o', Conf l x) ?_ fun o' ho => Ok.ret ho
     refine Ok.bind (P := fun o' : List Pr => (o'.length : Int) <= o.length + j /\ ∀ x ∈ o', Conf l x) ?_ fun o' ho => Ok.ret ho
     refine zal (fun s : List Pr × Int => 0 <= s.2 /\ s.2 <= j /\ (s.1.length : Int) <= o.length + s.2 /\ ∀ x ∈ s.1, Conf l x) (fun s => (j - s.2).toNat) ?_ ⟨by dsimp only; omega, by dsimp only; omega, by dsimp only; omega, g4⟩
     rintro ⟨q, i⟩ ⟨h1, h2, h3, h4⟩
     dsimp only at h1 h2 h3 h4 ⊢
     refine Ok.ited (fun hi => ?_) fun hi => Ok.ret ⟨by omega, h4⟩
     rw [zac (x := i + 1) (by omega) (by omega)]
     refine Ok.bind (P := fun o' : List Pr => (o'.length : Int) <= o.length + i + 1 /\ ∀ x ∈ o', Conf l x) ?_ fun o' ho => ?_
     · (repeat' (first | (with_reducible refine Ok.bc ?_ ?_; (· exact (by first | rfl | (simp only [Tc]; omega)))) | (with_reducible refine Ok.chk ?_ ?_; (· exact (by first | rfl | (simp only [Tc]; omega))))))
       refine Ok.bind (P := fun o' : List Pr => (o'.length : Int) <= o.length + i + 1 /\ ∀ x ∈ o', Conf l x) ?_ fun o' ho => Ok.ret ho
       refine Ok.ite (fun hv => ?_) fun _ => Ok.ret ⟨by omega, h4⟩
       refine Ok.chk (zbr (by simp only [List.length_append, List.length_cons, List.length_nil]; omega)) ?_
       refine Ok.ret ⟨by simp only [List.length_append, List.length_cons, List.length_nil]; omega, fun x hx => ?_⟩
       rcases List.mem_append.1 hx with hx | hx
       · exact h4 x hx
       · simp only [List.mem_singleton] at hx
         subst hx
         simp only [Bool.if_false_right, Bool.if_true_left, Bool.and_eq_true, Bool.or_eq_true, decide_eq_true_eq, Bool.not_eq_true', decide_eq_false_iff_not] at hv
         obtain ⟨⟨⟨v1, v2⟩, v3⟩, v4⟩ := hv
         exact ⟨i.toNat, j.toNat, by omega, by omega, rfl, rfl, v1, v2, v3, v4⟩
     · exact Ok.ret ⟨⟨by dsimp only; omega, by dsimp only; omega, by dsimp only; omega, ho.2⟩, by dsimp only; omega⟩
   · exact Ok.ret ⟨⟨by dsimp only; omega, by dsimp only; omega, by dsimp only; omega, ho.2⟩, by dsimp only; omega⟩
 · refine Ok.bind (zf6 (by omega)) fun r hr => Ok.ret ⟨by dsimp only; omega, hr.1, hr.2.1, fun x hx => ho.2 x (hr.2.2.2 x hx)⟩
theorem firstIdx_cases (n : Nat) (p : Nat -> Bool) : (firstIdx n p = -1 /\ ∀ k, k < n -> p k = false) \/ ∃ k : Nat, k < n /\ firstIdx n p = k /\ p k = true := by
 unfold firstIdx
 cases h : (List.range n).find? p with
 | none =>
   refine .inl ⟨rfl, fun k hk => ?_⟩
   have := List.find?_eq_none.1 h k (List.mem_range.2 hk)
   simpa using this
 | some k =>
   have h1 := List.find?_some h
   have h2 := List.mem_of_find?_eq_some h
   exact .inr ⟨k, List.mem_range.1 h2, rfl, h1⟩
theorem zf3 (l : List Int) (x : Int) (hl : l.length <= 1000000) : slices_Contains__int_int l x = some (decide (x ∈ l)) := by
 unfold slices_Contains__int_int
 have h : slices_Index__int_int l x = some (firstIdx l.length fun k => decide (x = l.getD k 0)) := by
  unfold slices_Index__int_int
  refine zag (zcc (fun k : Nat => (k : Int)) l.length (fun k => decide (x = l.getD k 0)) rfl (fun k hk => ?_) ?_) (zcg _ _)
  · have hk1 : (k : Int) < l.length := by omega
    have hk0 : (0 : Int) <= (k : Int) := by omega
    have hi : i64 ((k : Int) + 1) = ((k + 1 : Nat) : Int) := by rw [zac (by omega) (by omega)]; rfl
    simp only [hk1, hk0, decide_true, if_true, Bool.and_self, zaj, Int.toNat_natCast, hi]
    cases decide (x = l.getD k 0) <;> rfl
  · simp
 refine zag h ?_
 rw [zd0, zg0 l 0 fun y => decide (x = y)]
 congr 1
 rw [Bool.eq_iff_iff, List.any_eq_true, decide_eq_true_eq]
 constructor
 · rintro ⟨y, hy, h⟩
   rw [of_decide_eq_true h]; exact hy
 · exact fun h => ⟨x, h, decide_eq_true rfl⟩
def blk (t : Int) (left : List Int) (p : Pr) : Bool := decide (p.2 = t) && decide (p.1 ∈ left)
theorem zjc (p : Pr) (t : Int) (left : List Int) (hl : left.length <= 1000000) : impl_SerialOrder_1_1 p.1 p.2 t left = some (blk t left p) := by
 unfold impl_SerialOrder_1_1 blk
 by_cases h : p.2 = t
 · simp only [h, decide_true, if_true, zf3 _ _ hl, bind_some, Bool.true_and]
 · simp only [h, decide_false, Bool.false_eq_true, if_false, bind_some, Bool.false_and]
theorem zjx (t : Int) (ps : List Pr) (left : List Int) (hp : ps.length <= 1000000) (hl : left.length <= 1000000) : impl_SerialOrder_1 t ps left = some (!ps.any (blk t left)) := by
 unfold impl_SerialOrder_1 slices_ContainsFunc__impl_Pair_impl_Pair
 have h : slices_IndexFunc__impl_Pair_impl_Pair ps t left = some (firstIdx ps.length fun k => blk t left (ps.getD k P0)) := by
  unfold slices_IndexFunc__impl_Pair_impl_Pair
  refine zag (zcc (fun k : Nat => (k : Int)) ps.length (fun k => blk t left (ps.getD k P0)) rfl (fun k hk => ?_) ?_) (zcg _ _)
  · have hk1 : (k : Int) < ps.length := by omega
    have hk0 : (0 : Int) <= (k : Int) := by omega
    have hi : i64 ((k : Int) + 1) = ((k + 1 : Nat) : Int) := by rw [zac (by omega) (by omega)]; rfl
    simp only [hk1, hk0, decide_true, if_true, Bool.and_self, zaj, Int.toNat_natCast, zjc _ _ _ hl, bind_some, hi]
    cases blk t left (ps.getD k P0) <;> rfl
  · simp
 rw [h]
 simp only [bind_some]
 rw [zd0, zg0 ps P0 (blk t left)]
theorem zjz (left : List Int) (ps : List Pr) (hp : ps.length <= 1000000) (hl : left.length <= 1000000) : slices_IndexFunc__int_int'''''' left ps left = some (firstIdx left.length fun k => !ps.any (blk (left.getD k 0) left)) := by
 unfold slices_IndexFunc__int_int''''''
 refine zag (zcc (fun k : Nat => (k : Int)) left.length (fun k => !ps.any (blk (left.getD k 0) left)) rfl (fun k hk => ?_) ?_) (zcg _ _)
 · have hk1 : (k : Int) < left.length := by omega
   have hk0 : (0 : Int) <= (k : Int) := by omega
   have hi : i64 ((k : Int) + 1) = ((k + 1 : Nat) : Int) := by rw [zac (by omega) (by omega)]; rfl
   simp only [hk1, hk0, decide_true, if_true, Bool.and_self, zaj, Int.toNat_natCast, zjx _ _ _ hp hl, bind_some, hi]
   cases (!ps.any (blk (left.getD k 0) left)) <;> rfl
 · simp
theorem zji (f : Int -> Int) : ∀ (l : List Int), l ≠ [] -> ∃ t ∈ l, ∀ s ∈ l, f t <= f s
 | [], h => absurd rfl h
 | a :: l, _ => by
   by_cases hl : l = []
   · subst hl
     exact ⟨a, by simp, fun s hs => by simp at hs; subst hs; omega⟩
   · obtain ⟨t, ht, h⟩ := zji f l hl
     by_cases c : f a <= f t
     · refine ⟨a, by simp, fun s hs => ?_⟩
       rcases List.mem_cons.1 hs with rfl | hs
       · omega
       · have := h s hs; omega
     · refine ⟨t, by simp [ht], fun s hs => ?_⟩
       rcases List.mem_cons.1 hs with rfl | hs
       · omega
       · exact h s hs
theorem zew {l : List Op3} (hn : l.length <= 60) (hg : impl_areOps l = some true) {ts : List Int} (ht : impl_txnsOf l = some ts) (hts : ts.length <= 12) (f : Int -> Int) (hf : ∀ x, Conf l x -> f x.1 < f x.2) :
 Ok (impl_SerialOrder l) (fun r => r.2 = true) := by
 unfold impl_SerialOrder
 refine Ok.be hg ?_
 simp only [Bool.not_true, Bool.false_eq_true, if_false]
 refine Ok.be ht ?_
 refine Ok.bind (zfQ hn) fun r hr => ?_
 obtain ⟨ps, n⟩ := r
 obtain ⟨r0, r1, r2, r3⟩ := hr
 dsimp only at r0 r1 r2 r3 ⊢
 have e0 : (ps.take n.toNat).drop (Int.toNat 0) = ps.take n.toNat := by
  show List.drop 0 _ = _
  rw [List.drop_zero]
 rw [e0]
 have hq : (ps.take n.toNat).length <= 1000000 := by rw [List.length_take]; omega
 generalize ps.take n.toNat = qs at r3 hq
 refine Ok.bind (P := fun x : List Int ⊕ (List Int × Bool) => match x with | .inl _ => True | .inr _ => False) ?_ fun x hx => ?_
 · refine zal (fun s : List Int × List Int => s.1.length + s.2.length <= 12) (fun s => s.1.length) ?_ (by simpa using hts)
   rintro ⟨left, out⟩ h1
   dsimp only at h1 ⊢
   refine Ok.ited (fun hc => ?_) fun hc => Ok.ret trivial
   have hne : left ≠ [] := by
    intro h; rw [h] at hc; simp at hc
   refine Ok.be (zjz left qs hq (by omega)) ?_
   rcases firstIdx_cases left.length (fun k => !qs.any (blk (left.getD k 0) left)) with ⟨h, hall⟩ | ⟨k, hk, h, hp⟩
   · obtain ⟨t, ht, hmin⟩ := zji f left hne
     obtain ⟨k, hk, rfl⟩ := List.mem_iff_getElem.1 ht
     have := hall k hk
     have e : left.getD k 0 = left[k] := by rw [List.getD_eq_getElem?_getD, List.getElem?_eq_getElem hk]; rfl
     rw [e] at this
     simp only [Bool.not_eq_false', List.any_eq_true] at this
     obtain ⟨p, hp, hb⟩ := this
     unfold blk at hb
     simp only [Bool.and_eq_true, decide_eq_true_eq] at hb
     have h1 := hf p (r3 p hp)
     have h2 := hmin p.1 hb.2
     rw [hb.1] at h1
     omega
   · rw [h]
     refine Ok.ited (fun hh => by omega) fun _ => ?_
     rw [zac (x := (k : Int) + 1) (by omega) (by omega)]
     refine Ok.chk (by simp only [Bool.and_eq_true, decide_eq_true_eq]; omega) ?_
     refine Ok.chk (zbr (by simp only [List.length_append, List.length_cons, List.length_nil]; omega)) ?_
     refine Ok.bind (P := fun r : List Int => r.length + 1 = left.length) ?_ fun r hr => ?_
     · unfold slices_Delete__int_int
       rw [zbx (zbr (by omega)), zbx (zbr (by omega)), zbx (zbr (by omega)), zbx (zbr (by omega))]
       refine Ok.ret ?_
       have e0 : Int.toNat 0 = 0 := rfl
       simp only [List.length_append, List.length_drop, List.length_take, e0]
       omega
     · refine Ok.ret ⟨?_, by dsimp only; omega⟩
       simp only [List.length_append, List.length_cons, List.length_nil]; omega
 · rcases x with y | y
   · exact Ok.ret rfl
   · exact hx.elim
def okc (o : Op3) : Bool := (decide (1 <= o.1) && decide (o.1 <= 3)) && ((decide (1 <= o.2.1) && decide (o.2.1 <= 8)) && (if o.1 = 3 then decide (o.2.2 = []) else isKy o.2.2))
structure GO (l : List Op3) : Prop where
 len : l.length <= 60
 op : ∀ k, k < l.length -> okc (l.getD k O0) = true
 last : ∀ k j, k < j -> j < l.length -> (l.getD k O0).1 = 3 -> (l.getD j O0).2.1 ≠ (l.getD k O0).2.1
 ends : ∀ k, k < l.length -> (l.getD k O0).1 ≠ 3 -> ∃ j, k < j /\ j < l.length /\ (l.getD j O0).2.1 = (l.getD k O0).2.1 /\ (l.getD j O0).1 = 3
theorem zd8 : isKy [] = false := by decide
def moreB (l : List Op3) (k n : Nat) : Bool := (List.range n).any fun j => decide ((l.getD (k + 1 + j) O0).2.1 = (l.getD k O0).2.1)
def doneB (l : List Op3) (k n : Nat) : Bool := (List.range n).any fun j => decide ((l.getD (k + 1 + j) O0).2.1 = (l.getD k O0).2.1) && decide ((l.getD (k + 1 + j) O0).1 = 3)
def badB (l : List Op3) (k : Nat) : Bool := !okc (l.getD k O0) || (if (l.getD k O0).1 = 3 then moreB l k (l.length - (k + 1)) else !doneB l k (l.length - (k + 1)))
theorem zd3 {l : List Op3} (hk : ∀ o ∈ l, o.2.2.length <= 1000000) (hl : l.length <= 1000000) : spec_GoodOps l = some (decide (l.length <= 60) && !(List.range l.length).any (badB l)) := by
 unfold spec_GoodOps
 by_cases h60 : l.length <= 60
 case neg =>
  have : (60 : Int) < (l.length : Int) := by omega
  simp only [this, decide_true, if_true, h60, decide_false, Bool.false_and]
 have h60' : ¬ (60 : Int) < (l.length : Int) := by omega
 simp only [h60', decide_false, Bool.false_eq_true, if_false, h60, decide_true, Bool.true_and]
 refine zag (zaV (fun k : Nat => (k : Int)) l.length (badB l) (.inr false) (.inl ()) rfl (fun k hkk => ?_) ?_) ?_
 · have hk1 : (k : Int) < l.length := by omega
   have hk0 : (0 : Int) <= (k : Int) := by omega
   have hi : i64 ((k : Int) + 1) = ((k + 1 : Nat) : Int) := by rw [zac (by omega) (by omega)]; rfl
   have hin : ((k + 1 : Nat) : Int) <= l.length := by omega
   have hi0 : (0 : Int) <= ((k + 1 : Nat) : Int) := by omega
   have hself : ((l.length : Nat) : Int) <= l.length := by omega
   have hky := hk _ (zcl hkk O0)
   have inner : loopM (σ := Bool × Bool × Int) (X := Bool × Bool) (fun s13 =>
    (if (decide (s13.2.2 < (((l.length : Nat) : Int) - ((k + 1 : Nat) : Int)))) then
    ((chk ((decide ((0 : Int) <= s13.2.2)) && (decide (s13.2.2 < (((l.length : Nat) : Int) - ((k + 1 : Nat) : Int))))) <|
    chk (decide (0 <= (((k + 1 : Nat) : Int) + s13.2.2)) && decide ((((k + 1 : Nat) : Int) + s13.2.2) < ((l.length : Nat) : Int))) <|
    some ((if s13.1 then true else decide ((l.getD (Int.toNat (((k + 1 : Nat) : Int) + s13.2.2)) O0).2.1 = (l.getD k O0).2.1)), (if s13.2.1 then true else (if decide ((l.getD (Int.toNat (((k + 1 : Nat) : Int) + s13.2.2)) O0).2.1 = (l.getD k O0).2.1) then decide ((l.getD (Int.toNat (((k + 1 : Nat) : Int) + s13.2.2)) O0).1 = (3 : Int)) else false)))).bind fun s18 =>
    some (.inl (s18.1, s18.2, (i64 (s13.2.2 + (1 : Int))))))
    else
    some (.inr (s13.1, s13.2.1)))) (false, false, (0 : Int)) = some (moreB l k (l.length - (k + 1)), doneB l k (l.length - (k + 1))) := by
    refine zbG (fun j : Nat => (moreB l k j, doneB l k j, (j : Int))) (l.length - (k + 1)) (moreB l k (l.length - (k + 1)), doneB l k (l.length - (k + 1))) rfl (fun j hj => ?_) ?_
    · have j1 : (j : Int) < ((l.length : Nat) : Int) - ((k + 1 : Nat) : Int) := by omega
      have j0 : (0 : Int) <= (j : Int) := by omega
      have j2 : (0 : Int) <= ((k + 1 : Nat) : Int) + (j : Int) := by omega
      have j3 : ((k + 1 : Nat) : Int) + (j : Int) < ((l.length : Nat) : Int) := by omega
      have j4 : Int.toNat (((k + 1 : Nat) : Int) + (j : Int)) = k + 1 + j := by omega
      have ji : i64 ((j : Int) + 1) = ((j + 1 : Nat) : Int) := by rw [zac (by omega) (by omega)]; rfl
      simp only [j1, j0, j2, j3, j4, ji, decide_true, if_true, Bool.and_self, zaj, bind_some, zhl, zi9]
      have em : moreB l k (j + 1) = (moreB l k j || decide ((l.getD (k + 1 + j) O0).2.1 = (l.getD k O0).2.1)) := by
       unfold moreB; rw [List.range_succ, List.any_append]; simp
      have ed : doneB l k (j + 1) = (doneB l k j || (decide ((l.getD (k + 1 + j) O0).2.1 = (l.getD k O0).2.1) && decide ((l.getD (k + 1 + j) O0).1 = 3))) := by
       unfold doneB; rw [List.range_succ, List.any_append]; simp
      rw [em, ed]
    · have : ¬ (((l.length - (k + 1) : Nat) : Int) < ((l.length : Nat) : Int) - ((k + 1 : Nat) : Int)) := by omega
      simp only [this, decide_false, Bool.false_eq_true, if_false]
   simp only [hk1, hk0, decide_true, if_true, Bool.and_self, zaj, Int.toNat_natCast, zbT, bind_some, zfp _ (Nat.le_trans hky (by decide)), hi, hin, hi0, hself]
   unfold badB okc
   have e1 : Int.toNat ((k : Nat) : Int) = k := Int.toNat_natCast k
   generalize hb1 : (decide (1 <= (l.getD k O0).1) && decide ((l.getD k O0).1 <= 3)) = b1
   generalize hb2 : (decide (1 <= (l.getD k O0).2.1) && decide ((l.getD k O0).2.1 <= 8)) = b2
   cases b1 with
   | false => simp
   | true =>
     cases b2 with
     | false => simp
     | true =>
       by_cases h3 : (l.getD k O0).1 = 3
       · by_cases hy : (l.getD k O0).2.2 = []
         · simp only [h3, hy, decide_true, Bool.not_true, Bool.not_false, Bool.false_eq_true, if_false, if_true, bne_self_eq_false, Bool.and_false, bind_some]
           refine zag (zag inner rfl) ?_
           simp only [Bool.true_and, Bool.and_self, Bool.not_true, Bool.false_or, Bool.or_false, Bool.false_eq_true, if_false, if_true]
           cases moreB l k (l.length - (k + 1)) <;> rfl
         · simp only [h3, hy, zd8, decide_true, decide_false, Bool.not_true, Bool.not_false, Bool.false_eq_true, if_false, if_true, show (true != false) = true from rfl, show (false != true) = true from rfl, bne_self_eq_false, Bool.true_and, Bool.false_and, Bool.and_false, Bool.and_true, Bool.and_self, Bool.true_or, Bool.or_true, Bool.false_or, Bool.or_false, bind_some]
       · by_cases hy : (l.getD k O0).2.2 = []
         · simp only [h3, hy, zd8, decide_true, decide_false, Bool.not_true, Bool.not_false, Bool.false_eq_true, if_false, if_true, show (true != false) = true from rfl, show (false != true) = true from rfl, bne_self_eq_false, Bool.true_and, Bool.false_and, Bool.and_false, Bool.and_true, Bool.and_self, Bool.true_or, Bool.or_true, Bool.false_or, Bool.or_false, bind_some]
         · cases hkk2 : isKy (l.getD k O0).2.2 with
           | false => simp only [h3, hy, hkk2, zd8, decide_true, decide_false, Bool.not_true, Bool.not_false, Bool.false_eq_true, if_false, if_true, show (true != false) = true from rfl, show (false != true) = true from rfl, bne_self_eq_false, Bool.true_and, Bool.false_and, Bool.and_false, Bool.and_true, Bool.and_self, Bool.true_or, Bool.or_true, Bool.false_or, Bool.or_false, bind_some]
           | true =>
             simp only [h3, hy, hkk2, decide_false, Bool.not_true, Bool.not_false, Bool.false_eq_true, if_false, if_true, bne_self_eq_false, Bool.and_self, bind_some]
             refine zag (zag inner rfl) ?_
             simp only [Bool.true_and, Bool.and_self, Bool.not_true, Bool.false_or, Bool.or_false, Bool.false_eq_true, if_false, if_true]
             cases doneB l k (l.length - (k + 1)) <;> rfl
 · simp
 · cases (List.range l.length).any (badB l) <;> rfl
def eq9 (a b : List Bool) : Bool := ((a.getD 0 false == b.getD 0 false) && ((a.getD 1 false == b.getD 1 false) && ((a.getD 2 false == b.getD 2 false) && ((a.getD 3 false == b.getD 3 false) && ((a.getD 4 false == b.getD 4 false) && ((a.getD 5 false == b.getD 5 false) && ((a.getD 6 false == b.getD 6 false) && ((a.getD 7 false == b.getD 7 false) && (a.getD 8 false == b.getD 8 false)))))))))
def mk9 (f : Nat -> Bool) : List Bool := (List.range 9).map f
theorem zhS (f : Nat -> Bool) : (mk9 f).length = 9 := by simp [mk9]
theorem zay (f : Nat -> Bool) {t : Nat} (h : t < 9) : (mk9 f).getD t false = f t := by
 unfold mk9
 rw [List.getD_eq_getElem?_getD, List.getElem?_map, List.getElem?_range h]; rfl
theorem zhE (f : Nat -> Bool) {t : Nat} (h : t < 9) (v : Bool) : (mk9 f).set t v = mk9 fun i => if i = t then v else f i := by
 unfold mk9
 apply List.ext_getElem?
 intro i
 rw [List.getElem?_set]
 by_cases hi : i < 9
 · rw [List.getElem?_map, List.getElem?_map, List.getElem?_range hi]
   by_cases e : t = i
   · subst e
     rw [if_pos rfl, if_pos (by simp; exact h)]
     simp
   · rw [if_neg e]
     simp [Ne.symm e]
 · rw [List.getElem?_eq_none (by simp; omega), List.getElem?_eq_none (by simp; omega)]
   split
   · rw [if_neg (by simp; omega)]
   · rfl
theorem ziK (f g : Nat -> Bool) : eq9 (mk9 f) (mk9 g) = true ↔ ∀ t, t < 9 -> f t = g t := by
 unfold eq9
 rw [zay f (show 0 < 9 by decide), zay f (show 1 < 9 by decide), zay f (show 2 < 9 by decide), zay f (show 3 < 9 by decide), zay f (show 4 < 9 by decide), zay f (show 5 < 9 by decide), zay f (show 6 < 9 by decide), zay f (show 7 < 9 by decide), zay f (show 8 < 9 by decide),
  zay g (show 0 < 9 by decide), zay g (show 1 < 9 by decide), zay g (show 2 < 9 by decide), zay g (show 3 < 9 by decide), zay g (show 4 < 9 by decide), zay g (show 5 < 9 by decide), zay g (show 6 < 9 by decide), zay g (show 7 < 9 by decide), zay g (show 8 < 9 by decide)]
 simp only [Bool.and_eq_true, beq_iff_eq]
 constructor
 · rintro ⟨h0, h1, h2, h3, h4, h5, h6, h7, h8⟩ t ht
   have : t = 0 \/ t = 1 \/ t = 2 \/ t = 3 \/ t = 4 \/ t = 5 \/ t = 6 \/ t = 7 \/ t = 8 := by omega
   rcases this with rfl | rfl | rfl | rfl | rfl | rfl | rfl | rfl | rfl <;> assumption
 · exact fun h => ⟨h 0 (by omega), h 1 (by omega), h 2 (by omega), h 3 (by omega), h 4 (by omega), h 5 (by omega), h 6 (by omega), h 7 (by omega), h 8 (by omega)⟩
def ovr (l : List Op3) (k t : Nat) : Bool := (List.range k).any fun i => decide ((l.getD i O0).2.1 = (t : Int)) && decide ((l.getD i O0).1 = 3)
def sen (l : List Op3) (k t : Nat) : Bool := (List.range k).any fun i => decide ((l.getD i O0).2.1 = (t : Int))
def badI (l : List Op3) (k : Nat) : Bool := !okc (l.getD k O0) || ovr l k (l.getD k O0).2.1.toNat
theorem zeg {l : List Op3} (hl : l.length <= 1000000) : impl_areOps l = some (!(List.range l.length).any (badI l) && (decide (l.length <= 60) && eq9 (mk9 (sen l l.length)) (mk9 (ovr l l.length)))) := by
 unfold impl_areOps
 have hz : (false :: false :: false :: false :: false :: false :: false :: false :: false :: ([] : List Bool)) = mk9 fun _ => false := by decide
 have hr : (((List.replicate (Int.toNat (9 : Int)) false).length : Nat) : Int) = 9 := by decide
 dsimp only
 rw [hz]
 first | rw [zbx (by decide), zbx (by decide)] | skip
 refine zag (zaV (fun k : Nat => (mk9 (ovr l k), mk9 (sen l k), (k : Int))) l.length (badI l) (.inr false) (.inl (mk9 (ovr l l.length), mk9 (sen l l.length))) rfl (fun k hkk => ?_) ?_) ?_
 · have hk1 : (k : Int) < l.length := by omega
   have hk0 : (0 : Int) <= (k : Int) := by omega
   have hi : i64 ((k : Int) + 1) = ((k + 1 : Nat) : Int) := by rw [zac (by omega) (by omega)]; rfl
   simp only [hk1, hk0, decide_true, if_true, Bool.and_self, zaj, Int.toNat_natCast, zeE, bind_some, zfl, hi, zhS]
   unfold badI okc
   by_cases h1 : (decide (1 <= (l.getD k O0).1) && decide ((l.getD k O0).1 <= 3)) = true
   case neg =>
    have h1 : (decide (1 <= (l.getD k O0).1) && decide ((l.getD k O0).1 <= 3)) = false := by simpa using h1
    simp only [h1, Bool.not_false, Bool.not_true, Bool.false_eq_true, if_false, if_true, bind_some, Bool.true_or, Bool.false_and, Bool.and_false, zaj]
   by_cases h2 : (decide (1 <= (l.getD k O0).2.1) && decide ((l.getD k O0).2.1 <= 8)) = true
   case neg =>
    have h2 : (decide (1 <= (l.getD k O0).2.1) && decide ((l.getD k O0).2.1 <= 8)) = false := by simpa using h2
    simp only [h1, h2, Bool.not_false, Bool.not_true, Bool.false_eq_true, if_false, if_true, bind_some, Bool.true_or, Bool.false_and, Bool.and_false, Bool.true_and, zaj]
   have ht : 1 <= (l.getD k O0).2.1 /\ (l.getD k O0).2.1 <= 8 := by simpa using h2
   have t0 : (0 : Int) <= (l.getD k O0).2.1 := by omega
   have t9 : (l.getD k O0).2.1 < 9 := by omega
   have t9' : (l.getD k O0).2.1 < ((9 : Nat) : Int) := by omega
   have tn : (l.getD k O0).2.1.toNat < 9 := by omega
   simp only [h1, h2, t0, t9, t9', decide_true, Bool.and_self, Bool.or_true, zaj, Bool.not_false, Bool.not_true, Bool.false_eq_true, if_false, if_true, bind_some, Bool.true_and, zay _ tn]
   cases hov : ovr l k (l.getD k O0).2.1.toNat with
   | true => simp only [if_true, Bool.true_or, Bool.not_true, Bool.false_and, Bool.false_eq_true, if_false, bind_some, Bool.or_true]
   | false =>
     have es : mk9 (sen l (k + 1)) = (mk9 (sen l k)).set (l.getD k O0).2.1.toNat true := by
      rw [zhE _ tn]
      congr 1
      funext t
      unfold sen
      rw [List.range_succ, List.any_append]
      simp only [List.any_cons, List.any_nil, Bool.or_false]
      by_cases e : t = (l.getD k O0).2.1.toNat
      · subst e
        rw [if_pos rfl]
        have : (l.getD k O0).2.1 = (((l.getD k O0).2.1.toNat : Nat) : Int) := by omega
        rw [decide_eq_true this, Bool.or_true]
      · rw [if_neg e]
        have : ¬ (l.getD k O0).2.1 = (t : Int) := by omega
        rw [decide_eq_false this, Bool.or_false]
     have eo : mk9 (ovr l (k + 1)) = (mk9 (ovr l k)).set (l.getD k O0).2.1.toNat (decide ((l.getD k O0).1 = 3)) := by
      rw [zhE _ tn]
      congr 1
      funext t
      have hsucc : ovr l (k + 1) t = (ovr l k t || (decide ((l.getD k O0).2.1 = (t : Int)) && decide ((l.getD k O0).1 = 3))) := by
       unfold ovr
       rw [List.range_succ, List.any_append]
       simp only [List.any_cons, List.any_nil, Bool.or_false]
      rw [hsucc]
      by_cases e : t = (l.getD k O0).2.1.toNat
      · subst e
        rw [if_pos rfl, hov, Bool.false_or]
        have : (l.getD k O0).2.1 = (((l.getD k O0).2.1.toNat : Nat) : Int) := by omega
        rw [decide_eq_true this, Bool.true_and]
      · rw [if_neg e]
        have : ¬ (l.getD k O0).2.1 = (t : Int) := by omega
        rw [decide_eq_false this, Bool.false_and, Bool.or_false]
     rw [es, eo]
     by_cases h3 : (l.getD k O0).1 = 3
     · by_cases hy : (l.getD k O0).2.2 = []
       · simp only [h3, hy, decide_true, Bool.not_true, Bool.not_false, Bool.false_eq_true, if_false, if_true, Bool.and_false, bind_some, Bool.or_self, Bool.or_false]
       · simp only [h3, hy, decide_true, decide_false, Bool.not_true, Bool.not_false, Bool.false_eq_true, if_false, if_true, Bool.and_false, Bool.false_and, bind_some, Bool.or_self, Bool.or_false]
     · cases hkk2 : isKy (l.getD k O0).2.2 <;>
        simp only [h3, hkk2, decide_false, Bool.not_true, Bool.not_false, Bool.false_eq_true, if_false, if_true, Bool.and_self, bind_some, Bool.or_self, Bool.or_false]
 · simp
 · cases hb : (List.range l.length).any (badI l) with
   | true => simp only [if_true, zi0, Bool.not_true, Bool.false_and]
   | false =>
     simp only [Bool.false_eq_true, if_false, zd5, Bool.not_false, Bool.true_and, zhS]
     have e9 : ∀ n : Int, 0 <= n -> n < 9 -> (decide (0 <= n) && decide (n < ((9 : Nat) : Int))) = true := fun n h1 h2 => by
      simp only [Bool.and_eq_true, decide_eq_true_eq]; omega
     have e9' : decide ((((9 : Nat) : Int)) = 9) = true := by decide
     simp only [e9 0 (by decide) (by decide), e9 1 (by decide) (by decide), e9 2 (by decide) (by decide), e9 3 (by decide) (by decide), e9 4 (by decide) (by decide), e9 5 (by decide) (by decide), e9 6 (by decide) (by decide), e9 7 (by decide) (by decide), e9 8 (by decide) (by decide), e9', Bool.or_true, zaj]
     have hc : decide (((l.length : Nat) : Int) <= 60) = decide (l.length <= 60) := by rw [decide_eq_decide]; omega
     rw [hc]
     cases decide (l.length <= 60) with
     | true => rfl
     | false => rfl
theorem zfc {o : Op3} (h : okc o = true) : 1 <= o.2.1 /\ o.2.1 <= 8 := by
 unfold okc at h
 simp only [Bool.and_eq_true, decide_eq_true_eq] at h
 exact h.2.1
theorem ziO (l : List Op3) : (decide (l.length <= 60) && !(List.range l.length).any (badB l)) = true ↔ GO l := by
 simp only [Bool.and_eq_true, decide_eq_true_eq, Bool.not_eq_true', zak]
 constructor
 · rintro ⟨h1, h2⟩
   have h3 : ∀ k, k < l.length -> okc (l.getD k O0) = true /\ (if (l.getD k O0).1 = 3 then moreB l k (l.length - (k + 1)) else !doneB l k (l.length - (k + 1))) = false := fun k hk => by
    have := h2 k hk
    unfold badB at this
    simpa only [Bool.or_eq_false_iff, Bool.not_eq_false'] using this
   refine ⟨h1, fun k hk => (h3 k hk).1, fun k j hkj hj hK hT => ?_, fun k hk hK => ?_⟩
   · have := (h3 k (by omega)).2
     rw [if_pos hK] at this
     unfold moreB at this
     rw [zak] at this
     have := this (j - (k + 1)) (by omega)
     rw [show k + 1 + (j - (k + 1)) = j by omega, decide_eq_true hT] at this
     cases this
   · have := (h3 k hk).2
     rw [if_neg hK] at this
     unfold doneB at this
     simp only [Bool.not_eq_false', zax, Bool.and_eq_true, decide_eq_true_eq] at this
     obtain ⟨j, hj, q1, q2⟩ := this
     exact ⟨k + 1 + j, by omega, by omega, q1, q2⟩
 · intro g
   refine ⟨g.len, fun k hk => ?_⟩
   unfold badB
   rw [g.op k hk]
   simp only [Bool.not_true, Bool.false_or]
   split
   · rename_i hK
     unfold moreB
     rw [zak]
     intro j hj
     exact decide_eq_false (g.last k (k + 1 + j) (by omega) (by omega) hK)
   · rename_i hK
     obtain ⟨j, q1, q2, q3, q4⟩ := g.ends k hk hK
     simp only [Bool.not_eq_false']
     unfold doneB
     rw [zax]
     refine ⟨j - (k + 1), by omega, ?_⟩
     rw [show k + 1 + (j - (k + 1)) = j by omega, decide_eq_true q3, decide_eq_true q4]; rfl
theorem ziE (l : List Op3) : (!(List.range l.length).any (badI l) && (decide (l.length <= 60) && eq9 (mk9 (sen l l.length)) (mk9 (ovr l l.length)))) = true ↔ GO l := by
 simp only [Bool.and_eq_true, decide_eq_true_eq, Bool.not_eq_true', zak, ziK]
 constructor
 · rintro ⟨h2, h1, h4⟩
   have h3 : ∀ k, k < l.length -> okc (l.getD k O0) = true /\ ovr l k (l.getD k O0).2.1.toNat = false := fun k hk => by
    have := h2 k hk
    unfold badI at this
    simpa only [Bool.or_eq_false_iff, Bool.not_eq_false'] using this
   refine ⟨h1, fun k hk => (h3 k hk).1, fun k j hkj hj hK hT => ?_, fun k hk hK => ?_⟩
   · have := (h3 j hj).2
     unfold ovr at this
     rw [zak] at this
     have := this k hkj
     have ht := zfc (h3 j hj).1
     have e : (l.getD k O0).2.1 = (((l.getD j O0).2.1.toNat : Nat) : Int) := by omega
     rw [decide_eq_true e, decide_eq_true hK] at this
     cases this
   · have ht := zfc (h3 k hk).1
     have hs : sen l l.length (l.getD k O0).2.1.toNat = true := by
      unfold sen
      rw [zax]
      exact ⟨k, hk, decide_eq_true (by omega)⟩
     have := h4 (l.getD k O0).2.1.toNat (by omega)
     rw [hs] at this
     have := this.symm
     unfold ovr at this
     rw [zax] at this
     obtain ⟨i, hi, hb⟩ := this
     simp only [Bool.and_eq_true, decide_eq_true_eq] at hb
     refine ⟨i, ?_, hi, by omega, hb.2⟩
     rcases Nat.lt_trichotomy k i with h | h | h
     · exact h
     · subst h; exact absurd hb.2 hK
     · have hk2 := (h3 k hk).2
       unfold ovr at hk2
       rw [zak] at hk2
       have := hk2 i h
       rw [decide_eq_true hb.1, decide_eq_true hb.2] at this
       cases this
 · intro g
   refine ⟨fun k hk => ?_, g.len, fun t ht => ?_⟩
   · unfold badI
     rw [g.op k hk]
     simp only [Bool.not_true, Bool.false_or]
     unfold ovr
     rw [zak]
     intro i hi
     have ht := zfc (g.op k hk)
     by_cases h3 : (l.getD i O0).1 = 3
     · have := g.last i k hi hk h3
       have : ¬ (l.getD i O0).2.1 = (((l.getD k O0).2.1.toNat : Nat) : Int) := by omega
       rw [decide_eq_false this, Bool.false_and]
     · rw [decide_eq_false h3, Bool.and_false]
   · rw [Bool.eq_iff_iff]
     unfold sen ovr
     rw [zax, zax]
     constructor
     · rintro ⟨k, hk, h⟩
       have h := of_decide_eq_true h
       by_cases h3 : (l.getD k O0).1 = 3
       · exact ⟨k, hk, by rw [decide_eq_true h, decide_eq_true h3]; rfl⟩
       · obtain ⟨j, q1, q2, q3, q4⟩ := g.ends k hk h3
         exact ⟨j, q2, by rw [decide_eq_true (q3.trans h), decide_eq_true q4]; rfl⟩
     · rintro ⟨k, hk, h⟩
       simp only [Bool.and_eq_true, decide_eq_true_eq] at h
       exact ⟨k, hk, decide_eq_true h.1⟩
open Classical in
theorem zdP {l : List Op3} (hk : ∀ o ∈ l, o.2.2.length <= 1000000) (hl : l.length <= 1000000) : spec_GoodOps l = some (decide (GO l)) := by
 rw [zd3 hk hl]
 congr 1
 rw [Bool.eq_iff_iff, decide_eq_true_eq]
 exact ziO l
open Classical in
theorem zcu {l : List Op3} (hl : l.length <= 1000000) : impl_areOps l = some (decide (GO l)) := by
 rw [zeg hl]
 congr 1
 rw [Bool.eq_iff_iff, decide_eq_true_eq]
 exact ziE l
abbrev Sp := Int × Tx × Int × Int × Bool
abbrev S0 : Sp := (0, ([], (0, (0, false))))
def sameB (l : List Op3) (i j : Nat) : Bool := decide ((l.getD i O0).2.1 = (l.getD j O0).2.1) && decide ((l.getD i O0).2.2 = (l.getD j O0).2.2)
def hit (l : List Op3) (j i : Nat) : Bool := !decide ((l.getD j O0).1 = 3) && sameB l j i
def isF (l : List Op3) (i : Nat) : Bool := !decide ((l.getD i O0).1 = 3) && !((List.range i).any fun j => hit l j i)
def fs (l : List Op3) (k : Nat) : List Nat := (List.range k).filter (isF l)
def LL (l : List Op3) (q : List Int) (i : Nat) : Nat -> Int
 | 0 => 0
 | k + 1 => if hit l k i then max (LL l q i k) (q.getD k 0) else LL l q i k
def WW (l : List Op3) (i : Nat) : Nat -> Bool
 | 0 => false
 | k + 1 => if hit l k i then WW l i k || decide ((l.getD k O0).1 = 2) else WW l i k
def ent (l : List Op3) (q : List Int) (k i : Nat) : Sp := ((l.getD i O0).2.1, (l.getD i O0).2.2, (i : Int), LL l q i k, WW l i k)
def spn (l : List Op3) (q : List Int) (k : Nat) : List Sp := (fs l k).map (ent l q k)
theorem zci (l : List Op3) (i : Nat) : sameB l i i = true := by simp [sameB]
theorem zbc {l : List Op3} {i j : Nat} : sameB l i j = true ↔ (l.getD i O0).2.1 = (l.getD j O0).2.1 /\ (l.getD i O0).2.2 = (l.getD j O0).2.2 := by simp [sameB]
theorem zaL {l : List Op3} {i j : Nat} (h : sameB l i j = true) : sameB l j i = true := by
 rw [zbc] at h ⊢; exact ⟨h.1.symm, h.2.symm⟩
theorem zcw {l : List Op3} {i j k : Nat} (h : sameB l i j = true) (g : sameB l j k = true) : sameB l i k = true := by
 rw [zbc] at *; exact ⟨h.1.trans g.1, h.2.trans g.2⟩
theorem zcn {l : List Op3} {k i : Nat} : i ∈ fs l k ↔ i < k /\ isF l i = true := by simp [fs]
theorem zg5 (l : List Op3) (k : Nat) : fs l (k + 1) = if isF l k then fs l k ++ [k] else fs l k := by
 unfold fs
 rw [List.range_succ, List.filter_append]
 cases h : isF l k <;> simp [h]
theorem zio (l : List Op3) (k : Nat) : (fs l k).Nodup := List.Pairwise.filter _ List.nodup_range
theorem zaQ {l : List Op3} {i : Nat} : isF l i = true ↔ (l.getD i O0).1 ≠ 3 /\ ∀ j, j < i -> hit l j i = false := by
 unfold isF
 simp only [Bool.and_eq_true, Bool.not_eq_true', decide_eq_false_iff_not, zak, ne_eq]
theorem zaB {l : List Op3} {i j : Nat} : hit l j i = true ↔ (l.getD j O0).1 ≠ 3 /\ sameB l j i = true := by
 unfold hit
 simp only [Bool.and_eq_true, Bool.not_eq_true', decide_eq_false_iff_not, ne_eq]
theorem zcN (l : List Op3) : ∀ (n i : Nat), i < n -> (l.getD i O0).1 ≠ 3 -> ∃ r, r <= i /\ isF l r = true /\ sameB l r i = true
 | 0, i, h, _ => by omega
 | n + 1, i, h, hK => by
   by_cases hf : isF l i = true
   · exact ⟨i, Nat.le_refl i, hf, zci l i⟩
   · have : ∃ j, j < i /\ hit l j i = true := by
      apply Classical.byContradiction
      intro hn
      apply hf
      rw [zaQ]
      refine ⟨hK, fun j hj => ?_⟩
      cases hh : hit l j i with
      | false => rfl
      | true => exact absurd ⟨j, hj, hh⟩ hn
     obtain ⟨j, hj, hh⟩ := this
     obtain ⟨h1, h2⟩ := zaB.1 hh
     obtain ⟨r, r1, r2, r3⟩ := zcN l n j (by omega) h1
     exact ⟨r, by omega, r2, zcw r3 h2⟩
theorem zfU {l : List Op3} {i j : Nat} (hi : isF l i = true) (hj : isF l j = true) (h : sameB l i j = true) : i = j := by
 obtain ⟨i1, i2⟩ := zaQ.1 hi
 obtain ⟨j1, j2⟩ := zaQ.1 hj
 rcases Nat.lt_trichotomy i j with c | c | c
 · have := j2 i c
   rw [zaB.2 ⟨i1, h⟩] at this; cases this
 · exact c
 · have := i2 j c
   rw [zaB.2 ⟨j1, zaL h⟩] at this; cases this
theorem zgg {l : List Op3} {q : List Int} {i : Nat} : ∀ k, (∀ j, j < k -> hit l j i = false) -> LL l q i k = 0
 | 0, _ => rfl
 | k + 1, h => by
   unfold LL
   rw [h k (by omega)]
   exact zgg k fun j hj => h j (by omega)
theorem zgr {l : List Op3} {i : Nat} : ∀ k, (∀ j, j < k -> hit l j i = false) -> WW l i k = false
 | 0, _ => rfl
 | k + 1, h => by
   unfold WW
   rw [h k (by omega)]
   exact zgr k fun j hj => h j (by omega)
theorem zeZ {l : List Op3} {q : List Int} {k i : Nat} (h : hit l k i = false) : ent l q (k + 1) i = ent l q k i := by
 unfold ent
 have e1 : LL l q i (k + 1) = LL l q i k := by show (if hit l k i then _ else _) = _; rw [h]; rfl
 have e2 : WW l i (k + 1) = WW l i k := by show (if hit l k i then _ else _) = _; rw [h]; rfl
 rw [e1, e2]
theorem zh0 {l : List Op3} {q : List Int} {k i : Nat} (h : hit l k i = true) : ent l q (k + 1) i = ((l.getD i O0).2.1, (l.getD i O0).2.2, (i : Int), max (LL l q i k) (q.getD k 0), WW l i k || decide ((l.getD k O0).1 = 2)) := by
 unfold ent
 have e1 : LL l q i (k + 1) = max (LL l q i k) (q.getD k 0) := by show (if hit l k i then _ else _) = _; rw [h]; rfl
 have e2 : WW l i (k + 1) = (WW l i k || decide ((l.getD k O0).1 = 2)) := by show (if hit l k i then _ else _) = _; rw [h]; rfl
 rw [e1, e2]
theorem zhz (l : List Op3) (q : List Int) (k : Nat) : (spn l q k).length <= k := by
 unfold spn fs
 rw [List.length_map]
 exact Nat.le_trans (List.length_filter_le _ _) (by simp)
theorem zc6 {l : List Op3} {q : List Int} {k n : Nat} (h : n < (fs l k).length) : (spn l q k).getD n S0 = ent l q k (fs l k)[n] := by
 unfold spn
 rw [List.getD_eq_getElem?_getD, List.getElem?_map, List.getElem?_eq_getElem h]; rfl
theorem ziZ {A : Type} {f g : Nat -> A} {L : List Nat} {n : Nat} (hn : n < L.length) (hd : L.Nodup) (h : ∀ i ∈ L, i ≠ L[n] -> f i = g i) : (L.map f).set n (g L[n]) = L.map g := by
 apply List.ext_getElem?
 intro m
 rw [List.getElem?_set]
 by_cases e : n = m
 · subst e
   rw [if_pos rfl, if_pos (by simpa using hn), List.getElem?_map, List.getElem?_eq_getElem hn]; rfl
 · rw [if_neg e, List.getElem?_map, List.getElem?_map]
   by_cases hm : m < L.length
   · rw [List.getElem?_eq_getElem hm]
     simp only [Option.map_some]
     have hp := List.pairwise_iff_getElem.1 hd
     rw [h L[m] (List.getElem_mem hm) fun he => by
      rcases Nat.lt_trichotomy n m with c | c | c
      · exact hp n m hn hm c he.symm
      · exact e c
      · exact hp m n hm hn c he]
   · rw [List.getElem?_eq_none (by omega)]; rfl
theorem zfC {s : List Sp} (hs : s.length <= 1000000) (a t : Int) (y : Tx) : slices_IndexFunc__impl_span_impl_span s a t y = some (firstIdx s.length fun k => decide ((s.getD k S0).1 = t) && decide ((s.getD k S0).2.1 = y)) := by
 unfold slices_IndexFunc__impl_span_impl_span
 refine zag (zcc (fun k : Nat => (k : Int)) s.length (fun k => decide ((s.getD k S0).1 = t) && decide ((s.getD k S0).2.1 = y)) rfl (fun k hk => ?_) ?_) (zcg _ _)
 · have hk1 : (k : Int) < s.length := by omega
   have hk0 : (0 : Int) <= (k : Int) := by omega
   have hi : i64 ((k : Int) + 1) = ((k + 1 : Nat) : Int) := by rw [zac (by omega) (by omega)]; rfl
   unfold impl_spansOf_1
   simp only [hk1, hk0, decide_true, if_true, Bool.and_self, zaj, Int.toNat_natCast, bind_some, zi9, hi]
   cases (decide ((s.getD k S0).1 = t) && decide ((s.getD k S0).2.1 = y)) <;> rfl
 · simp
theorem zdU {l : List Op3} {q : List Int} (hl : l.length <= 1000) (hq : q.length = l.length) : impl_spansOf l q = some (spn l q l.length) := by
 unfold impl_spansOf
 refine zag (zag (zbG (fun k : Nat => (spn l q k, (k : Int))) l.length (spn l q l.length) rfl (fun k hk => ?_) ?_) rfl) rfl
 · have hk1 : (k : Int) < l.length := by omega
   have hk0 : (0 : Int) <= (k : Int) := by omega
   have hkq : (k : Int) < q.length := by omega
   have hi : i64 ((k : Int) + 1) = ((k + 1 : Nat) : Int) := by rw [zac (by omega) (by omega)]; rfl
   have hsl := zhz l q k
   simp only [hk1, hk0, decide_true, if_true, Bool.and_self, zaj, Int.toNat_natCast, hi]
   refine zag (a := spn l q (k + 1)) ?_ rfl
   by_cases h3 : (l.getD k O0).1 = 3
   · simp only [h3, decide_true, if_true]
     have hF : isF l k = false := by
      cases hh : isF l k with
      | false => rfl
      | true => exact absurd h3 (zaQ.1 hh).1
     have : spn l q (k + 1) = spn l q k := by
      unfold spn
      rw [zg5, hF]
      apply List.map_congr_left
      intro i _
      apply zeZ
      unfold hit; rw [decide_eq_true h3]; rfl
     rw [this]
   · simp only [h3, decide_false, Bool.false_eq_true, if_false]
     refine zag (zfC (by omega) _ _ _) ?_
     rcases firstIdx_cases (spn l q k).length (fun n => decide (((spn l q k).getD n S0).1 = (l.getD k O0).2.1) && decide (((spn l q k).getD n S0).2.1 = (l.getD k O0).2.2)) with ⟨h, hall⟩ | ⟨n, hn, h, hp⟩
     · -- a new one
       rw [h]
       have hno : ∀ i, i ∈ fs l k -> sameB l i k = false := by
        intro i hi
        obtain ⟨n, hn, rfl⟩ := List.mem_iff_getElem.1 hi
        have hn' : n < (spn l q k).length := by unfold spn; rw [List.length_map]; exact hn
        have := hall n hn'
        rw [zc6 hn] at this
        exact this
       have hF : isF l k = true := by
        rw [zaQ]
        refine ⟨h3, fun j hj => ?_⟩
        cases hh : hit l j k with
        | false => rfl
        | true =>
          obtain ⟨j1, j2⟩ := zaB.1 hh
          obtain ⟨r, r1, r2, r3⟩ := zcN l (j + 1) j (by omega) j1
          have := hno r (zcn.2 ⟨by omega, r2⟩)
          rw [zcw r3 j2] at this; cases this
       have hnone := (zaQ.1 hF).2
       have hE : spn l q (k + 1) = spn l q k ++ [((l.getD k O0).2.1, (l.getD k O0).2.2, (k : Int), max 0 (q.getD k 0), decide ((l.getD k O0).1 = 2))] := by
        unfold spn
        rw [zg5, hF, if_pos rfl, List.map_append]
        congr 1
        · apply List.map_congr_left
          intro i hi
          apply zeZ
          cases hh : hit l k i with
          | false => rfl
          | true =>
            have := hno i hi
            rw [zaL (zaB.1 hh).2] at this; cases this
        · simp only [List.map_cons, List.map_nil]
          rw [zh0 (zaB.2 ⟨h3, zci l k⟩), zgg k hnone, zgr k hnone, Bool.false_or]
       have hlen : ((spn l q k ++ [((l.getD k O0).2.1, (l.getD k O0).2.2, (k : Int), (0 : Int), false)]).length : Int) = ((spn l q k).length : Int) + 1 := by simp
       have g1 : (-1 : Int) < 0 := by omega
       simp only [g1, decide_true, if_true]
       rw [zbx (zbr (by rw [hlen]; omega))]
       simp only [bind_some]
       have hset : ∀ (X v : Sp), (spn l q k ++ [X]).set (spn l q k).length v = spn l q k ++ [v] := by
        intro X v
        rw [List.set_append_right _ _ (Nat.le_refl _), Nat.sub_self]; rfl
       have hl1 : ∀ X : Sp, ((spn l q k ++ [X]).length : Int) = ((spn l q k).length : Int) + 1 := fun X => by simp
       have hget2 : ∀ X : Sp, (spn l q k ++ [X]).getD (spn l q k).length S0 = X := fun X => by
        rw [List.getD_eq_getElem?_getD, List.getElem?_append_right (Nat.le_refl _), Nat.sub_self]; rfl
       have c1 : (0 : Int) <= ((spn l q k).length : Int) := by omega
       have c2 : ((spn l q k).length : Int) < ((spn l q k).length : Int) + 1 := by omega
       simp only [hget2, hset, hl1, c1, c2, hkq, hk0, decide_true, Bool.and_self, zaj, Int.toNat_natCast]
       rw [hE]
       first | rfl | (simp only [Bool.false_eq_true, if_false]; done) | (simp; done)
     · -- one that is there
       rw [h]
       have hn' : n < (fs l k).length := by unfold spn at hn; rwa [List.length_map] at hn
       rw [zc6 hn'] at hp
       have hsame : sameB l (fs l k)[n] k = true := hp
       have hmem := zcn.1 (List.getElem_mem hn')
       have hF : isF l k = false := by
        cases hh : isF l k with
        | false => rfl
        | true =>
          have := zfU hmem.2 hh hsame
          have := hmem.1
          omega
       have hE : spn l q (k + 1) = (spn l q k).set n ((l.getD (fs l k)[n] O0).2.1, (l.getD (fs l k)[n] O0).2.2, ((fs l k)[n] : Int), max (LL l q (fs l k)[n] k) (q.getD k 0), WW l (fs l k)[n] k || decide ((l.getD k O0).1 = 2)) := by
        unfold spn
        rw [zg5, hF]
        rw [<- zh0 (q := q) (zaB.2 ⟨h3, zaL hsame⟩)]
        refine (ziZ hn' (zio l k) fun i hi hne => ?_).symm
        refine (zeZ ?_).symm
        cases hh : hit l k i with
        | false => rfl
        | true => exact absurd (zfU (zcn.1 hi).2 hmem.2 (zcw (zaL (zaB.1 hh).2) (zaL hsame))) hne
       have g1 : ¬ ((n : Nat) : Int) < 0 := by omega
       have c1 : (0 : Int) <= (n : Int) := by omega
       have c2 : (n : Int) < ((spn l q k).length : Int) := by omega
       simp only [g1, decide_false, Bool.false_eq_true, if_false, bind_some, c1, c2, hkq, hk0, decide_true, Bool.and_self, zaj, Int.toNat_natCast, zc6 hn', List.length_set]
       have hg2 : ∀ v : Sp, ((spn l q k).set n v).getD n S0 = v := fun v => zgf hn v S0
       simp only [hg2, List.set_set]
       rw [hE]
       congr 2
       unfold ent
       cases WW l (fs l k)[n] k <;> simp
 · simp
def badS (a b : Sp) : Bool := (!decide (a.1 = b.1) && (((decide (a.2.1 = b.2.1) && decide (a.2.2.1 <= b.2.2.2.1)) && decide (b.2.2.1 <= a.2.2.2.1)) && (a.2.2.2.2 || b.2.2.2.2))) || (decide (a.1 = b.1) && decide (b.2.2.2.1 < a.2.2.1))
def rowBad (s : List Sp) (i : Nat) : Bool := (List.range s.length).any fun j => !decide (i = j) && badS (s.getD i S0) (s.getD j S0)
theorem zcA {s : List Sp} (hs : s.length <= 1000000) : impl_areTwoPhase s = some (!(List.range s.length).any (rowBad s)) := by
 unfold impl_areTwoPhase
 dsimp only
 refine zag (zaV (fun k : Nat => (k : Int)) s.length (rowBad s) (.inr false) (.inl ()) rfl (fun i hi => ?_) ?_) ?_
 · have hk1 : (i : Int) < s.length := by omega
   have hk0 : (0 : Int) <= (i : Int) := by omega
   have hi1 : i64 ((i : Int) + 1) = ((i + 1 : Nat) : Int) := by rw [zac (by omega) (by omega)]; rfl
   simp only [hk1, hk0, decide_true, if_true, Bool.and_self, zaj, Int.toNat_natCast, hi1]
   refine zag (zaV (fun k : Nat => (k : Int)) s.length (fun j => !decide (i = j) && badS (s.getD i S0) (s.getD j S0)) (.inr false) (.inl ()) rfl (fun j hj => ?_) ?_) ?_
   · have hj1 : (j : Int) < s.length := by omega
     have hj0 : (0 : Int) <= (j : Int) := by omega
     have hj2 : i64 ((j : Int) + 1) = ((j + 1 : Nat) : Int) := by rw [zac (by omega) (by omega)]; rfl
     have hij : decide ((i : Int) = (j : Int)) = decide (i = j) := by rw [decide_eq_decide]; omega
     simp only [hj1, hj0, decide_true, if_true, Bool.and_self, zaj, Int.toNat_natCast, hj2, hij, zhl, zi9]
     by_cases e : i = j
     · simp only [e, decide_true, if_true, Bool.not_true, Bool.false_and, Bool.false_eq_true, if_false]
     · simp only [e, decide_false, Bool.false_eq_true, if_false, Bool.not_false, Bool.true_and]
       unfold badS
       split <;> rfl
   · simp
   · show sumE (if rowBad s i then _ else _) _ _ = _
     cases rowBad s i <;> rfl
 · simp
 · cases (List.range s.length).any (rowBad s) <;> rfl
def hF (l : List Op3) (t : Int) (y : Tx) : Nat -> Int
 | 0 => -1
 | k + 1 => if decide ((l.getD k O0).2.1 = t) && decide ((l.getD k O0).2.2 = y) then (if hF l t y k < 0 then (k : Int) else hF l t y k) else hF l t y k
def hL (l : List Op3) (q : List Int) (t : Int) (y : Tx) : Nat -> Int
 | 0 => -1
 | k + 1 => if decide ((l.getD k O0).2.1 = t) && decide ((l.getD k O0).2.2 = y) then (if hL l q t y k < q.getD k 0 then q.getD k 0 else hL l q t y k) else hL l q t y k
def hW (l : List Op3) (t : Int) (y : Tx) : Nat -> Bool
 | 0 => false
 | k + 1 => if decide ((l.getD k O0).2.1 = t) && decide ((l.getD k O0).2.2 = y) then (hW l t y k || decide ((l.getD k O0).1 = 2)) else hW l t y k
theorem zcs {l : List Op3} {q : List Int} (hl : l.length <= 1000) (hq : q.length = l.length) (t : Int) (y : Tx) : spec_l3Hold l q t y = some (hF l t y l.length, hL l q t y l.length, hW l t y l.length, decide (0 <= hF l t y l.length)) := by
 unfold spec_l3Hold
 refine zag (zag (zbG (fun k : Nat => (hF l t y k, hL l q t y k, hW l t y k, (k : Int))) l.length (hF l t y l.length, hL l q t y l.length, hW l t y l.length) rfl (fun k hk => ?_) ?_) rfl) rfl
 · have hk1 : (k : Int) < l.length := by omega
   have hk0 : (0 : Int) <= (k : Int) := by omega
   have hkq : (k : Int) < q.length := by omega
   have hi : i64 ((k : Int) + 1) = ((k + 1 : Nat) : Int) := by rw [zac (by omega) (by omega)]; rfl
   simp only [hk1, hk0, hkq, decide_true, if_true, Bool.and_self, zaj, Int.toNat_natCast, hi]
   have eF : hF l t y (k + 1) = if decide ((l.getD k O0).2.1 = t) && decide ((l.getD k O0).2.2 = y) then (if hF l t y k < 0 then (k : Int) else hF l t y k) else hF l t y k := rfl
   have eL : hL l q t y (k + 1) = if decide ((l.getD k O0).2.1 = t) && decide ((l.getD k O0).2.2 = y) then (if hL l q t y k < q.getD k 0 then q.getD k 0 else hL l q t y k) else hL l q t y k := rfl
   have eW : hW l t y (k + 1) = if decide ((l.getD k O0).2.1 = t) && decide ((l.getD k O0).2.2 = y) then (hW l t y k || decide ((l.getD k O0).1 = 2)) else hW l t y k := rfl
   rw [eF, eL, eW]
   by_cases c1 : (l.getD k O0).2.1 = t
   · by_cases c2 : (l.getD k O0).2.2 = y
     · simp only [c1, c2, decide_true, Bool.not_true, Bool.false_eq_true, if_false, if_true, Bool.and_self]
       by_cases c3 : hF l t y k < 0
       · by_cases c4 : hL l q t y k < q.getD k 0
         · simp only [c3, c4, decide_true, if_true, bind_some, zhl]
         · simp only [c3, c4, decide_true, decide_false, Bool.false_eq_true, if_false, if_true, bind_some, zhl]
       · by_cases c4 : hL l q t y k < q.getD k 0
         · simp only [c3, c4, decide_true, decide_false, Bool.false_eq_true, if_false, if_true, bind_some, zhl]
         · simp only [c3, c4, decide_false, Bool.false_eq_true, if_false, if_true, bind_some, zhl]
     · simp only [c1, c2, decide_true, decide_false, Bool.not_true, Bool.not_false, Bool.false_eq_true, if_false, if_true, Bool.and_false, bind_some]
   · simp only [c1, decide_false, Bool.not_false, Bool.false_eq_true, if_false, if_true, Bool.false_and, bind_some]
 · simp
def lockB (l : List Op3) (q : List Int) (k : Nat) : Bool := if (l.getD k O0).1 = 3 then !decide (q.getD k 0 = 0) else !(decide ((k : Int) <= q.getD k 0) && decide (q.getD k 0 <= (l.length : Int) - 1))
def bad2 (l : List Op3) (q : List Int) (i j : Nat) : Bool :=
 ((((!decide ((l.getD j O0).2.1 = (l.getD i O0).2.1) && decide ((l.getD j O0).2.2 = (l.getD i O0).2.2)) && (hW l (l.getD i O0).2.1 (l.getD i O0).2.2 l.length || hW l (l.getD j O0).2.1 (l.getD j O0).2.2 l.length)) && decide (hF l (l.getD i O0).2.1 (l.getD i O0).2.2 l.length <= hL l q (l.getD j O0).2.1 (l.getD j O0).2.2 l.length)) && decide (hF l (l.getD j O0).2.1 (l.getD j O0).2.2 l.length <= hL l q (l.getD i O0).2.1 (l.getD i O0).2.2 l.length)) ||
 ((decide ((l.getD j O0).2.1 = (l.getD i O0).2.1) && decide (hF l (l.getD i O0).2.1 (l.getD i O0).2.2 l.length = (i : Int))) && decide (hL l q (l.getD i O0).2.1 (l.getD i O0).2.2 l.length < hF l (l.getD j O0).2.1 (l.getD j O0).2.2 l.length))
def row2 (l : List Op3) (q : List Int) (i : Nat) : Bool := !decide ((l.getD i O0).2.2 = []) && (List.range l.length).any fun j => !decide ((l.getD j O0).2.2 = []) && bad2 l q i j
open Classical in
theorem zcQ {l : List Op3} {q : List Int} (hl : l.length <= 1000) (hq0 : q.length <= 1000) : impl_IsTwoPhase l q = some (if GO l /\ q.length = l.length /\ (List.range l.length).any (lockB l q) = false then (!(List.range (spn l q l.length).length).any (rowBad (spn l q l.length)), true) else (false, false)) := by
 unfold impl_IsTwoPhase
 refine zag (zcu (by omega)) ?_
 by_cases g : GO l
 case neg => simp only [g, decide_false, Bool.not_false, if_true, false_and, if_false]
 by_cases hq : q.length = l.length
 case neg =>
  have : ¬ ((q.length : Int) = (l.length : Int)) := by omega
  simp only [g, hq, this, decide_true, decide_false, Bool.not_true, Bool.not_false, Bool.false_eq_true, if_true, if_false, false_and, and_false]
 have hqi : ((q.length : Int) = (l.length : Int)) := by omega
 simp only [g, hq, decide_true, Bool.not_true, Bool.false_eq_true, if_false, true_and]
 have e1 : i64 ((l.length : Int) - 1) = (l.length : Int) - 1 := zac (by omega) (by omega)
 refine zag (zaV (fun k : Nat => (k : Int)) l.length (lockB l q) (.inr (false, false)) (.inl ()) rfl (fun k hk => ?_) ?_) ?_
 · have hk1 : (k : Int) < l.length := by omega
   have hk0 : (0 : Int) <= (k : Int) := by omega
   have hi : i64 ((k : Int) + 1) = ((k + 1 : Nat) : Int) := by rw [zac (by omega) (by omega)]; rfl
   simp only [hk1, hk0, decide_true, if_true, Bool.and_self, Bool.or_true, zaj, Int.toNat_natCast, hi, zeE, e1]
   unfold lockB
   by_cases h3 : (l.getD k O0).1 = 3
   · simp only [h3, decide_true, if_true, Bool.not_true, Bool.and_false, Bool.false_eq_true, if_false, bind_some, zhl, Bool.or_false]
     split <;> rfl
   · simp only [h3, decide_false, Bool.not_false, if_true, Bool.and_self, Bool.false_eq_true, if_false, bind_some, zhl, Bool.false_or, Bool.true_and]
     split <;> rfl
 · simp
 · cases (List.range l.length).any (lockB l q) with
   | true => simp
   | false =>
     simp only [Bool.false_eq_true, if_false, if_true, zd5]
     refine zag (zdU hl hq) ?_
     refine zag (zcA (by have := zhz l q l.length; omega)) rfl
open Classical in
theorem zcM {l : List Op3} {q : List Int} (hl : l.length <= 1000) (hq0 : q.length <= 1000) (hk : ∀ o ∈ l, o.2.2.length <= 1000000) : spec_IsTwoPhase l q = some (if GO l /\ q.length = l.length /\ (List.range l.length).any (lockB l q) = false then (!(List.range l.length).any (row2 l q), true) else (false, false)) := by
 unfold spec_IsTwoPhase
 refine zag (zdP hk (by omega)) ?_
 by_cases g : GO l
 case neg => simp only [g, decide_false, Bool.not_false, if_true, false_and, if_false]
 by_cases hq : q.length = l.length
 case neg =>
  have : ¬ ((q.length : Int) = (l.length : Int)) := by omega
  simp only [g, hq, this, decide_true, decide_false, Bool.not_true, Bool.not_false, Bool.false_eq_true, if_true, if_false, false_and, and_false]
 have hqi : ((q.length : Int) = (l.length : Int)) := by omega
 simp only [g, hq, decide_true, Bool.not_true, Bool.false_eq_true, if_false, true_and]
 have e1 : i64 ((l.length : Int) - 1) = (l.length : Int) - 1 := zac (by omega) (by omega)
 refine zag (zaV (fun k : Nat => (k : Int)) l.length (lockB l q) (.inr (false, false)) (.inl ()) rfl (fun k hk => ?_) ?_) ?_
 · have hk1 : (k : Int) < l.length := by omega
   have hk0 : (0 : Int) <= (k : Int) := by omega
   have hi : i64 ((k : Int) + 1) = ((k + 1 : Nat) : Int) := by rw [zac (by omega) (by omega)]; rfl
   simp only [hk1, hk0, decide_true, if_true, Bool.and_self, Bool.or_true, zaj, Int.toNat_natCast, hi, zbT, e1]
   unfold lockB
   by_cases h3 : (l.getD k O0).1 = 3
   · simp only [h3, decide_true, if_true, Bool.not_true, Bool.and_false, Bool.false_eq_true, if_false, bind_some, zhl, Bool.or_false]
     split <;> rfl
   · simp only [h3, decide_false, Bool.not_false, if_true, Bool.and_self, Bool.false_eq_true, if_false, bind_some, zhl, Bool.false_or, Bool.true_and]
     split <;> rfl
 · simp
 · cases (List.range l.length).any (lockB l q) with
   | true => simp
   | false =>
     simp only [Bool.false_eq_true, if_false, if_true, zd5]
     refine zag (zaV (fun k : Nat => (k : Int)) l.length (row2 l q) (.inr (false, true)) (.inl ()) rfl (fun i hi => ?_) ?_) ?_
     · have hk1 : (i : Int) < l.length := by omega
       have hk0 : (0 : Int) <= (i : Int) := by omega
       have hi1 : i64 ((i : Int) + 1) = ((i + 1 : Nat) : Int) := by rw [zac (by omega) (by omega)]; rfl
       simp only [hk1, hk0, decide_true, if_true, Bool.and_self, zaj, Int.toNat_natCast, hi1]
       unfold row2
       by_cases hy : (l.getD i O0).2.2 = []
       · simp only [hy, decide_true, if_true, Bool.not_true, Bool.false_and, Bool.false_eq_true, if_false]
       simp only [hy, decide_false, Bool.false_eq_true, if_false, Bool.not_false, Bool.true_and]
       refine zag (zcs hl hq _ _) ?_
       refine zag (zaV (fun k : Nat => (k : Int)) l.length (fun j => !decide ((l.getD j O0).2.2 = []) && bad2 l q i j) (.inr (false, true)) (.inl ()) rfl (fun j hj => ?_) ?_) ?_
       · have hj1 : (j : Int) < l.length := by omega
         have hj0 : (0 : Int) <= (j : Int) := by omega
         have hj2 : i64 ((j : Int) + 1) = ((j + 1 : Nat) : Int) := by rw [zac (by omega) (by omega)]; rfl
         simp only [hj1, hj0, decide_true, if_true, Bool.and_self, zaj, Int.toNat_natCast, hj2]
         by_cases hy2 : (l.getD j O0).2.2 = []
         · simp only [hy2, decide_true, if_true, Bool.not_true, Bool.false_and, Bool.false_eq_true, if_false]
         simp only [hy2, decide_false, Bool.false_eq_true, if_false, Bool.not_false, Bool.true_and]
         refine zag (zcs hl hq _ _) ?_
         unfold bad2
         simp only [zhl, zi9]
         generalize ((((!decide ((l.getD j O0).2.1 = (l.getD i O0).2.1) && decide ((l.getD j O0).2.2 = (l.getD i O0).2.2)) && (hW l (l.getD i O0).2.1 (l.getD i O0).2.2 l.length || hW l (l.getD j O0).2.1 (l.getD j O0).2.2 l.length)) && decide (hF l (l.getD i O0).2.1 (l.getD i O0).2.2 l.length <= hL l q (l.getD j O0).2.1 (l.getD j O0).2.2 l.length)) && decide (hF l (l.getD j O0).2.1 (l.getD j O0).2.2 l.length <= hL l q (l.getD i O0).2.1 (l.getD i O0).2.2 l.length)) = u
         generalize ((decide ((l.getD j O0).2.1 = (l.getD i O0).2.1) && decide (hF l (l.getD i O0).2.1 (l.getD i O0).2.2 l.length = (i : Int))) && decide (hL l q (l.getD i O0).2.1 (l.getD i O0).2.2 l.length < hF l (l.getD j O0).2.1 (l.getD j O0).2.2 l.length)) = v
         cases u <;> cases v <;> rfl
       · simp
       · generalize ((List.range l.length).any fun j => !decide ((l.getD j O0).2.2 = []) && bad2 l q i j) = u
         cases u <;> rfl
     · simp
     · cases (List.range l.length).any (row2 l q) <;> rfl
structure GQ (l : List Op3) (q : List Int) : Prop where
 g : GO l
 ql : q.length = l.length
 lk : ∀ k, k < l.length -> lockB l q k = false
theorem GQ.lock {l : List Op3} {q : List Int} (h : GQ l q) {k : Nat} (hk : k < l.length) (h3 : (l.getD k O0).1 ≠ 3) : (k : Int) <= q.getD k 0 := by
 have := h.lk k hk
 unfold lockB at this
 rw [if_neg h3] at this
 simp only [Bool.not_eq_false', Bool.and_eq_true, decide_eq_true_eq] at this
 exact this.1
theorem GO.key {l : List Op3} (g : GO l) {k : Nat} (hk : k < l.length) : (l.getD k O0).2.2 ≠ [] ↔ (l.getD k O0).1 ≠ 3 := by
 have := g.op k hk
 unfold okc at this
 simp only [Bool.and_eq_true] at this
 have h2 := this.2.2
 by_cases h3 : (l.getD k O0).1 = 3
 · rw [if_pos h3] at h2
   have := of_decide_eq_true h2
   exact ⟨fun hh => absurd this hh, fun hh => absurd h3 hh⟩
 · rw [if_neg h3] at h2
   constructor
   · exact fun _ => h3
   · intro _ he
     rw [he, zd8] at h2; cases h2
theorem zjp {l : List Op3} (g : GO l) {r k : Nat} (hr : r < l.length) (h3 : (l.getD r O0).1 ≠ 3) (hk : k < l.length) : (decide ((l.getD k O0).2.1 = (l.getD r O0).2.1) && decide ((l.getD k O0).2.2 = (l.getD r O0).2.2)) = hit l k r := by
 unfold hit
 by_cases c : sameB l k r = true
 · have hy := (g.key hr).2 h3
   have : (l.getD k O0).1 ≠ 3 := (g.key hk).1 (by rw [(zbc.1 c).2]; exact hy)
   rw [decide_eq_false this]
   rfl
 · have : sameB l k r = false := by simpa using c
   rw [this, Bool.and_false]
   exact this
theorem zeJ {l : List Op3} {q : List Int} (h : GQ l q) {r : Nat} (hr : r < l.length) (hF' : isF l r = true) : ∀ k, k <= l.length ->
 (k <= r -> hF l (l.getD r O0).2.1 (l.getD r O0).2.2 k = -1 /\ hL l q (l.getD r O0).2.1 (l.getD r O0).2.2 k = -1 /\ hW l (l.getD r O0).2.1 (l.getD r O0).2.2 k = false) /\
 (r < k -> hF l (l.getD r O0).2.1 (l.getD r O0).2.2 k = r /\ hL l q (l.getD r O0).2.1 (l.getD r O0).2.2 k = LL l q r k /\ hW l (l.getD r O0).2.1 (l.getD r O0).2.2 k = WW l r k)
 | 0, _ => ⟨fun _ => ⟨rfl, rfl, rfl⟩, fun h => by omega⟩
 | k + 1, hk => by
   obtain ⟨i1, i2⟩ := zeJ h hr hF' k (by omega)
   obtain ⟨f1, f2⟩ := zaQ.1 hF'
   have hm := zjp h.g hr f1 (show k < l.length by omega)
   have eF : hF l (l.getD r O0).2.1 (l.getD r O0).2.2 (k + 1) = if decide ((l.getD k O0).2.1 = (l.getD r O0).2.1) && decide ((l.getD k O0).2.2 = (l.getD r O0).2.2) then (if hF l (l.getD r O0).2.1 (l.getD r O0).2.2 k < 0 then (k : Int) else hF l (l.getD r O0).2.1 (l.getD r O0).2.2 k) else hF l (l.getD r O0).2.1 (l.getD r O0).2.2 k := rfl
   have eL : hL l q (l.getD r O0).2.1 (l.getD r O0).2.2 (k + 1) = if decide ((l.getD k O0).2.1 = (l.getD r O0).2.1) && decide ((l.getD k O0).2.2 = (l.getD r O0).2.2) then (if hL l q (l.getD r O0).2.1 (l.getD r O0).2.2 k < q.getD k 0 then q.getD k 0 else hL l q (l.getD r O0).2.1 (l.getD r O0).2.2 k) else hL l q (l.getD r O0).2.1 (l.getD r O0).2.2 k := rfl
   have eW : hW l (l.getD r O0).2.1 (l.getD r O0).2.2 (k + 1) = if decide ((l.getD k O0).2.1 = (l.getD r O0).2.1) && decide ((l.getD k O0).2.2 = (l.getD r O0).2.2) then (hW l (l.getD r O0).2.1 (l.getD r O0).2.2 k || decide ((l.getD k O0).1 = 2)) else hW l (l.getD r O0).2.1 (l.getD r O0).2.2 k := rfl
   rw [eF, eL, eW, hm]
   have lL : LL l q r (k + 1) = if hit l k r then max (LL l q r k) (q.getD k 0) else LL l q r k := rfl
   have lW : WW l r (k + 1) = if hit l k r then WW l r k || decide ((l.getD k O0).1 = 2) else WW l r k := rfl
   rw [lL, lW]
   refine ⟨fun hkr => ?_, fun hkr => ?_⟩
   · rw [f2 k (by omega)]
     simpa using i1 (by omega)
   · by_cases c : k = r
     · subst c
       obtain ⟨a1, a2, a3⟩ := i1 (Nat.le_refl _)
       have hq := h.lock (show k < l.length by omega) f1
       rw [zaB.2 ⟨f1, zci l k⟩, a1, a2, a3, zgg k f2, zgr k f2]
       refine ⟨by simp, ?_, by simp⟩
       rw [if_pos rfl, if_pos rfl, if_pos (by omega)]
       omega
     · obtain ⟨a1, a2, a3⟩ := i2 (by omega)
       rw [a1, a2, a3]
       cases hit l k r with
       | false => exact ⟨rfl, rfl, rfl⟩
       | true =>
         refine ⟨?_, ?_, rfl⟩
         · rw [if_pos rfl, if_neg (by omega)]
         · rw [if_pos rfl, if_pos rfl]
           split <;> omega
theorem ziH {l : List Op3} {q : List Int} {r j : Nat} (hh : hit l j r = true) : ∀ k, j < k -> q.getD j 0 <= LL l q r k
 | 0, h => by omega
 | k + 1, h => by
   have lL : LL l q r (k + 1) = if hit l k r then max (LL l q r k) (q.getD k 0) else LL l q r k := rfl
   rw [lL]
   by_cases c : j = k
   · subst c
     rw [hh, if_pos rfl]; omega
   · have := ziH hh (q := q) k (by omega)
     split <;> omega
theorem ziJ {l : List Op3} {r j : Nat} (hh : hit l j r = true) (h2 : (l.getD j O0).1 = 2) : ∀ k, j < k -> WW l r k = true
 | 0, h => by omega
 | k + 1, h => by
   have lW : WW l r (k + 1) = if hit l k r then WW l r k || decide ((l.getD k O0).1 = 2) else WW l r k := rfl
   rw [lW]
   by_cases c : j = k
   · subst c
     rw [hh, if_pos rfl, decide_eq_true h2, Bool.or_true]
   · have := ziJ hh h2 k (by omega)
     rw [this]
     split <;> simp
theorem zjq {l : List Op3} {q : List Int} (h : GQ l q) {r : Nat} (hr : r < l.length) (hF' : isF l r = true) : (r : Int) <= LL l q r l.length := by
 have f1 := (zaQ.1 hF').1
 have := ziH (q := q) (zaB.2 ⟨f1, zci l r⟩) l.length hr
 have := h.lock hr f1
 omega
def badR (l : List Op3) (q : List Int) (a b : Nat) : Bool := badS (ent l q l.length a) (ent l q l.length b)
theorem zim {l : List Op3} {q : List Int} (h : GQ l q) : (List.range (spn l q l.length).length).any (rowBad (spn l q l.length)) = true ↔ ∃ a b, a ∈ fs l l.length /\ b ∈ fs l l.length /\ badR l q a b = true := by
 have hlen : (spn l q l.length).length = (fs l l.length).length := by unfold spn; rw [List.length_map]
 have hself : ∀ a, a ∈ fs l l.length -> badR l q a a = false := by
  intro a ha
  obtain ⟨a1, a2⟩ := zcn.1 ha
  have := zjq h a1 a2
  have hn : ¬ LL l q a l.length < (a : Int) := by omega
  unfold badR badS ent
  simp [hn]
 rw [zax]
 constructor
 · rintro ⟨i, hi, hb⟩
   unfold rowBad at hb
   rw [zax] at hb
   obtain ⟨j, hj, hb⟩ := hb
   rw [hlen] at hi hj
   rw [zc6 hi, zc6 hj] at hb
   simp only [Bool.and_eq_true] at hb
   exact ⟨_, _, List.getElem_mem hi, List.getElem_mem hj, hb.2⟩
 · rintro ⟨a, b, ha, hb, hc⟩
   obtain ⟨i, hi, rfl⟩ := List.mem_iff_getElem.1 ha
   obtain ⟨j, hj, rfl⟩ := List.mem_iff_getElem.1 hb
   refine ⟨i, by omega, ?_⟩
   unfold rowBad
   rw [zax]
   refine ⟨j, by omega, ?_⟩
   rw [zc6 hi, zc6 hj]
   have hne : ¬ i = j := by
    intro e
    subst e
    rw [hself _ ha] at hc; cases hc
   rw [decide_eq_false hne]
   exact hc
theorem zfx {l : List Op3} {q : List Int} (h : GQ l q) : (List.range l.length).any (row2 l q) = true ↔ ∃ a b, a ∈ fs l l.length /\ b ∈ fs l l.length /\ badR l q a b = true := by
 have rep : ∀ i, i < l.length -> (l.getD i O0).2.2 ≠ [] -> ∃ r, r ∈ fs l l.length /\ r <= i /\ (l.getD i O0).2.1 = (l.getD r O0).2.1 /\ (l.getD i O0).2.2 = (l.getD r O0).2.2 := by
  intro i hi hy
  obtain ⟨r, r1, r2, r3⟩ := zcN l l.length i hi ((h.g.key hi).1 hy)
  have := zbc.1 r3
  exact ⟨r, zcn.2 ⟨by omega, r2⟩, r1, this.1.symm, this.2.symm⟩
 have hold : ∀ r, r ∈ fs l l.length -> hF l (l.getD r O0).2.1 (l.getD r O0).2.2 l.length = r /\ hL l q (l.getD r O0).2.1 (l.getD r O0).2.2 l.length = LL l q r l.length /\ hW l (l.getD r O0).2.1 (l.getD r O0).2.2 l.length = WW l r l.length := fun r hr => by
  obtain ⟨r1, r2⟩ := zcn.1 hr
  exact (zeJ h r1 r2 l.length (Nat.le_refl _)).2 r1
 rw [zax]
 constructor
 · rintro ⟨i, hi, hb⟩
   unfold row2 at hb
   simp only [Bool.and_eq_true, Bool.not_eq_true', decide_eq_false_iff_not, zax] at hb
   obtain ⟨hy, j, hj, hy2, hb⟩ := hb
   obtain ⟨a, a1, a2, a3, a4⟩ := rep i hi hy
   obtain ⟨b, b1, b2, b3, b4⟩ := rep j hj hy2
   obtain ⟨p1, p2, p3⟩ := hold a a1
   obtain ⟨p4, p5, p6⟩ := hold b b1
   unfold bad2 at hb
   rw [a3, a4, b3, b4, p1, p2, p3, p4, p5, p6] at hb
   simp only [Bool.or_eq_true, Bool.and_eq_true, Bool.not_eq_true', decide_eq_true_eq, decide_eq_false_iff_not] at hb
   rcases hb with ⟨⟨⟨⟨c1, c2⟩, c3⟩, c4⟩, c5⟩ | ⟨⟨c1, c2⟩, c3⟩
   · refine ⟨a, b, a1, b1, ?_⟩
     unfold badR badS ent
     simp only [Bool.or_eq_true, Bool.and_eq_true, Bool.not_eq_true', decide_eq_true_eq, decide_eq_false_iff_not]
     exact .inl ⟨fun e => c1 e.symm, ⟨⟨c2.symm, c4⟩, c5⟩, c3⟩
   · refine ⟨b, a, b1, a1, ?_⟩
     unfold badR badS ent
     simp only [Bool.or_eq_true, Bool.and_eq_true, Bool.not_eq_true', decide_eq_true_eq, decide_eq_false_iff_not]
     exact .inr ⟨c1, c3⟩
 · rintro ⟨a, b, a1, b1, hb⟩
   obtain ⟨p1, p2, p3⟩ := hold a a1
   obtain ⟨p4, p5, p6⟩ := hold b b1
   obtain ⟨a2, a3⟩ := zcn.1 a1
   obtain ⟨b2, b3⟩ := zcn.1 b1
   have ya := (h.g.key a2).2 (zaQ.1 a3).1
   have yb := (h.g.key b2).2 (zaQ.1 b3).1
   unfold badR badS ent at hb
   simp only [Bool.or_eq_true, Bool.and_eq_true, Bool.not_eq_true', decide_eq_true_eq, decide_eq_false_iff_not] at hb
   rcases hb with ⟨c1, ⟨⟨c2, c3⟩, c4⟩, c5⟩ | ⟨c1, c2⟩
   · refine ⟨a, a2, ?_⟩
     unfold row2
     rw [decide_eq_false ya, Bool.not_false, Bool.true_and, zax]
     refine ⟨b, b2, ?_⟩
     unfold bad2
     rw [decide_eq_false yb, p1, p2, p3, p4, p5, p6]
     simp only [Bool.not_false, Bool.true_and, Bool.or_eq_true, Bool.and_eq_true, Bool.not_eq_true', decide_eq_true_eq, decide_eq_false_iff_not]
     exact .inl ⟨⟨⟨⟨fun e => c1 e.symm, c2.symm⟩, c5⟩, c3⟩, c4⟩
   · refine ⟨b, b2, ?_⟩
     unfold row2
     rw [decide_eq_false yb, Bool.not_false, Bool.true_and, zax]
     refine ⟨a, a2, ?_⟩
     unfold bad2
     rw [decide_eq_false ya, p1, p2, p3, p4, p5, p6]
     simp only [Bool.not_false, Bool.true_and, Bool.or_eq_true, Bool.and_eq_true, Bool.not_eq_true', decide_eq_true_eq, decide_eq_false_iff_not]
     exact .inr ⟨⟨c1, trivial⟩, c2⟩
def peak (l : List Op3) (t : Int) : List Nat -> Int
 | [] => -1
 | r :: s => if (l.getD r O0).2.1 = t then max (r : Int) (peak l t s) else peak l t s
theorem zg3 {l : List Op3} {t : Int} : ∀ {s : List Nat} {r : Nat}, r ∈ s -> (l.getD r O0).2.1 = t -> (r : Int) <= peak l t s
 | [], r, h, _ => by simp at h
 | a :: s, r, h, ht => by
   unfold peak
   rcases List.mem_cons.1 h with rfl | h
   · rw [if_pos ht]; omega
   · have := zg3 h ht
     split <;> omega
theorem peak_eq {l : List Op3} {t : Int} : ∀ (s : List Nat), peak l t s = -1 \/ ∃ r ∈ s, (l.getD r O0).2.1 = t /\ peak l t s = r
 | [] => .inl rfl
 | a :: s => by
   unfold peak
   by_cases c : (l.getD a O0).2.1 = t
   · rw [if_pos c]
     rcases peak_eq (l := l) (t := t) s with h | ⟨r, h1, h2, h3⟩
     · refine .inr ⟨a, by simp, c, by omega⟩
     · by_cases d : (r : Int) <= a
       · exact .inr ⟨a, by simp, c, by omega⟩
       · exact .inr ⟨r, by simp [h1], h2, by omega⟩
   · rw [if_neg c]
     rcases peak_eq (l := l) (t := t) s with h | ⟨r, h1, h2, h3⟩
     · exact .inl h
     · exact .inr ⟨r, by simp [h1], h2, h3⟩
theorem ziU {l : List Op3} {q : List Int} (h : GQ l q) (hno : ¬ ∃ a b, a ∈ fs l l.length /\ b ∈ fs l l.length /\ badR l q a b = true) (x : Pr) (hx : Conf l x) : peak l x.1 (fs l l.length) < peak l x.2 (fs l l.length) := by
 obtain ⟨i, j, hij, hj, t1, t2, hne, hy, hyy, h2⟩ := hx
 have hi : i < l.length := by omega
 have ki := (h.g.key hi).1 hy
 have kj := (h.g.key hj).1 (by rw [<- hyy]; exact hy)
 obtain ⟨a, a1, a2, a3⟩ := zcN l l.length i hi ki
 obtain ⟨b, b1, b2, b3⟩ := zcN l l.length j hj kj
 have ma : a ∈ fs l l.length := zcn.2 ⟨by omega, a2⟩
 have mb : b ∈ fs l l.length := zcn.2 ⟨by omega, b2⟩
 have ea := zbc.1 a3
 have eb := zbc.1 b3
 have hia : hit l i a = true := zaB.2 ⟨ki, zaL a3⟩
 have hjb : hit l j b = true := zaB.2 ⟨kj, zaL b3⟩
 have lj := ziH (q := q) hjb l.length hj
 have qj := h.lock hj kj
 have n1 : badR l q a b = false := by
  cases hh : badR l q a b with
  | false => rfl
  | true => exact absurd ⟨a, b, ma, mb, hh⟩ hno
 have hw : WW l a l.length = true \/ WW l b l.length = true := h2.imp (fun e => ziJ hia e l.length hi) fun e => ziJ hjb e l.length hj
 have hlt : LL l q a l.length < (b : Int) := by
  apply Classical.byContradiction
  intro hge
  have hb : badR l q a b = true := by
   unfold badR badS ent
   simp only [Bool.or_eq_true, Bool.and_eq_true, Bool.not_eq_true', decide_eq_true_eq, decide_eq_false_iff_not]
   exact .inl ⟨fun e => hne (by rw [<- t1, <- t2, <- ea.1, <- eb.1]; exact e), ⟨⟨by rw [ea.2, eb.2]; exact hyy, by omega⟩, by omega⟩, hw⟩
  rw [hb] at n1; cases n1
 have hp2 : (b : Int) <= peak l x.2 (fs l l.length) := zg3 mb (by rw [eb.1]; exact t2)
 have hp1 := zg3 ma (show (l.getD a O0).2.1 = x.1 by rw [ea.1]; exact t1)
 rcases peak_eq (l := l) (t := x.1) (fs l l.length) with e | ⟨r, r1, r2, r3⟩
 · omega
 · have n2 : badR l q r a = false := by
    cases hh : badR l q r a with
    | false => rfl
    | true => exact absurd ⟨r, a, r1, ma, hh⟩ hno
   have : ¬ LL l q a l.length < (r : Int) := by
    intro hc
    have hb : badR l q r a = true := by
     unfold badR badS ent
     simp only [Bool.or_eq_true, Bool.and_eq_true, Bool.not_eq_true', decide_eq_true_eq, decide_eq_false_iff_not]
     exact .inr ⟨by rw [r2, ea.1]; exact t1.symm, hc⟩
    rw [hb] at n2; cases n2
   omega
theorem zhm {l : List Op3} (g : GO l) : ∃ ts, impl_txnsOf l = some ts /\ ts.length <= 12 := by
 have hl := g.len
 have : Ok (impl_txnsOf l) (fun ts => ts.length <= 12) := by
  unfold impl_txnsOf
  refine Ok.bind (P := fun o : List Int => o.Nodup /\ ∀ x ∈ o, ∃ i : Nat, i < l.length /\ (l.getD i O0).1 = 3 /\ (l.getD i O0).2.1 = x) ?_ fun o ho => ?_
  · refine Ok.bind (P := fun o : List Int => o.Nodup /\ ∀ x ∈ o, ∃ i : Nat, i < l.length /\ (l.getD i O0).1 = 3 /\ (l.getD i O0).2.1 = x) ?_ fun o ho => Ok.ret ho
    refine zal (fun s : List Int × Int => 0 <= s.2 /\ s.2 <= l.length /\ (s.1.length : Int) <= s.2 /\ s.1.Nodup /\ ∀ x ∈ s.1, ∃ i : Nat, (i : Int) < s.2 /\ (l.getD i O0).1 = 3 /\ (l.getD i O0).2.1 = x) (fun s => (l.length - s.2).toNat) ?_ ⟨by dsimp only; omega, by dsimp only; omega, by simp, by simp, by simp⟩
    rintro ⟨o, k⟩ ⟨h1, h2, h3, h4, h5⟩
    dsimp only at h1 h2 h3 h4 h5 ⊢
    refine Ok.ited (fun hc => ?_) fun hc => Ok.ret ⟨h4, fun x hx => by obtain ⟨i, i1, i2, i3⟩ := h5 x hx; exact ⟨i, by omega, i2, i3⟩⟩
    rw [zac (x := k + 1) (by omega) (by omega)]
    refine Ok.bind (P := fun o' : List Int => (o'.length : Int) <= k + 1 /\ o'.Nodup /\ ∀ x ∈ o', ∃ i : Nat, (i : Int) < k + 1 /\ (l.getD i O0).1 = 3 /\ (l.getD i O0).2.1 = x) ?_ fun o' ho => ?_
    · (repeat' (first | (with_reducible refine Ok.bc ?_ ?_; (· exact (by first | rfl | (simp only [Tc]; omega)))) | (with_reducible refine Ok.chk ?_ ?_; (· exact (by first | rfl | (simp only [Tc]; omega))))))
      refine Ok.bind (P := fun o' : List Int => (o'.length : Int) <= k + 1 /\ o'.Nodup /\ ∀ x ∈ o', ∃ i : Nat, (i : Int) < k + 1 /\ (l.getD i O0).1 = 3 /\ (l.getD i O0).2.1 = x) ?_ fun o' ho => Ok.ret ho
      refine Ok.ited (fun hK => ?_) fun _ => Ok.ret ⟨by omega, h4, fun x hx => by obtain ⟨i, i1, i2, i3⟩ := h5 x hx; exact ⟨i, by omega, i2, i3⟩⟩
      refine Ok.chk (zbr (by simp only [List.length_append, List.length_cons, List.length_nil]; omega)) ?_
      refine Ok.ret ⟨by simp only [List.length_append, List.length_cons, List.length_nil]; omega, ?_, fun x hx => ?_⟩
      · rw [List.nodup_append]
        refine ⟨h4, by simp, fun x hx y hy => ?_⟩
        simp only [List.mem_singleton] at hy
        subst hy
        obtain ⟨i, i1, i2, i3⟩ := h5 x hx
        have := g.last i k.toNat (by omega) (by omega) i2
        rw [<- i3]
        exact fun e => this e.symm
      · rcases List.mem_append.1 hx with hx | hx
        · obtain ⟨i, i1, i2, i3⟩ := h5 x hx; exact ⟨i, by omega, i2, i3⟩
        · simp only [List.mem_singleton] at hx
          subst hx
          exact ⟨k.toNat, by omega, hK, rfl⟩
    · exact Ok.ret ⟨⟨by dsimp only; omega, by dsimp only; omega, ho.1, ho.2.1, ho.2.2⟩, by dsimp only; omega⟩
  · have hsub : o ⊆ ([1, 2, 3, 4, 5, 6, 7, 8] : List Int) := by
     intro x hx
     obtain ⟨i, i1, i2, i3⟩ := ho.2 x hx
     have := zfc (g.op i i1)
     rw [i3] at this
     simp only [List.mem_cons, List.not_mem_nil, or_false]
     omega
    have hlen := List.Nodup.length_le_of_subset ho.1 hsub
    have h8 : ([1, 2, 3, 4, 5, 6, 7, 8] : List Int).length = 8 := rfl
    refine Ok.be (zep (by omega)) (Ok.ret ?_)
    rw [zdk]; omega
 obtain ⟨ts, h1, h2⟩ := this
 exact ⟨ts, h1, h2⟩
def BO (l : List Op3) : Prop := ∀ o ∈ l, o.2.2.length <= 100
theorem zft {l : List Op3} (h : BO l) {o : Op3} (ho : o.2.2.length <= 100) : BO (l ++ [o]) := by
 intro x hx
 rcases List.mem_append.1 hx with hx | hx
 · exact h x hx
 · simp only [List.mem_singleton] at hx
   subst hx; exact ho
theorem zjj {l : List Op3} (h : BO l) (k : Nat) : (l.getD k O0).2.2.length <= 100 := by
 by_cases hk : k < l.length
 · exact h _ (zcl hk O0)
 · rw [List.getD_eq_getElem?_getD, List.getElem?_eq_none (by omega)]; simp
theorem zfR {l : List Op3} (hl : l.length <= 1000000) (t : Int) : Ok (spec_l3Commit l t) (fun r => -1 <= r /\ r < l.length) := by
 unfold spec_l3Commit
 dsimp only
 refine Ok.bind (P := fun x : Unit ⊕ Int => match x with | .inl _ => True | .inr r => -1 <= r /\ r < l.length) ?_ fun x hx => ?_
 · refine zal (fun i : Int => 0 <= i /\ i <= l.length) (fun i => (l.length - i).toNat) ?_ ⟨by omega, by omega⟩
   rintro i ⟨g1, g2⟩
   refine Ok.ited (fun hc => ?_) fun hc => Ok.ret trivial
   rw [zac (x := i + 1) (by omega) (by omega)]
   (repeat' (first | (with_reducible refine Ok.bc ?_ ?_; (· exact (by first | rfl | (simp only [Tc]; omega)))) | (with_reducible refine Ok.chk ?_ ?_; (· exact (by first | rfl | (simp only [Tc]; omega))))))
   refine Ok.ite (fun _ => Ok.ret ⟨by omega, by omega⟩) fun _ => Ok.ret ⟨⟨by omega, by omega⟩, by omega⟩
 · rcases x with y | y
   · exact Ok.ret ⟨by omega, by omega⟩
   · exact Ok.ret hx
theorem zjo {a : List Int} (hb : Byt a) : Ok (spec_l1Cur_ops a 0 0) (fun r => 0 <= r.1 /\ r.1 <= 2000 /\ r.2.2.length <= 120 /\ BO r.2.2) := by
 unfold spec_l1Cur_ops
 refine Ok.bind (zby hb (by omega) (by omega) _) fun r0 q0 => ?_
 refine Ok.bind (zby hb (by omega) (by omega) _) fun r1 q1 => ?_
 refine Ok.bind (ze6 hb (by omega) (by omega) _) fun r2 q2 => ?_
 refine Ok.bind (P := fun n : Int => 0 <= n /\ n <= 50) ?_ fun n hn => ?_
 · refine Ok.ite (fun _ => Ok.ret (by omega)) fun _ => Ok.ret (by omega)
 refine Ok.bind (P := fun s : Int × Int × List Op3 => 0 <= s.1 /\ s.1 <= 1000 /\ s.2.2.length <= 50 /\ BO s.2.2) ?_ fun s14 h14 => ?_
 · refine Ok.bind (P := fun s : Int × Int × List Op3 => 0 <= s.1 /\ s.1 <= 1000 /\ s.2.2.length <= 50 /\ BO s.2.2) ?_ fun s hs => Ok.ret hs
   refine zal (fun s : Int × Int × List Op3 × Int => 0 <= s.1 /\ s.1 <= 100 + 15 * (50 - s.2.2.2) /\ (s.2.2.1.length : Int) + s.2.2.2 <= 50 /\ 0 <= s.2.2.2 /\ BO s.2.2.1) (fun s => s.2.2.2.toNat) ?_ ⟨by dsimp only; omega, by dsimp only; omega, by dsimp only; simp; omega, by dsimp only; omega, by intro x hx; simp at hx⟩
   rintro ⟨p, h, l, m⟩ ⟨g1, g2, g3, g4, g5⟩
   dsimp only at g1 g2 g3 g4 g5 ⊢
   refine Ok.ited (fun hc => ?_) fun hc => Ok.ret ⟨g1, by dsimp only; omega, by dsimp only; omega, g5⟩
   rw [zac (x := m - 1) (by omega) (by omega)]
   refine Ok.bind (P := fun s : Int × Int × List Op3 => 0 <= s.1 /\ s.1 <= p + 15 /\ s.2.2.length = l.length + 1 /\ BO s.2.2) ?_ fun s hs => ?_
   · refine Ok.bind (zby hb (by omega) (by omega) _) fun r5 q5 => ?_
     refine Ok.bind (zby hb (by omega) (by omega) _) fun r6 q6 => ?_
     refine Ok.bind (zjn hb (by omega) (by omega)) fun r7 q7 => ?_
     refine Ok.bind (ze6 hb (by omega) (by omega) _) fun r8 q8 => ?_
     refine Ok.bind (P := fun y : Tx => y.length <= 100) ?_ fun y hy => ?_
     · refine Ok.ite (fun _ => Ok.ret (by simp)) fun _ => Ok.ret (by omega)
     refine Ok.chk (zbr (by simp only [List.length_append, List.length_cons, List.length_nil]; omega)) ?_
     exact Ok.ret ⟨by dsimp only; omega, by dsimp only; omega, by simp, zft g5 hy⟩
   · exact Ok.ret ⟨⟨hs.1, by dsimp only; omega, by dsimp only; omega, by dsimp only; omega, hs.2.2.2⟩, by dsimp only; omega⟩
 obtain ⟨p0, h0, l⟩ := s14
 obtain ⟨u1, u2, u3, u4⟩ := h14
 dsimp only at u1 u2 u3 u4 ⊢
 refine Ok.bind (P := fun s : Int × Int × List Op3 => 0 <= s.1 /\ s.1 <= 1500 /\ s.2.2.length <= 100 /\ BO s.2.2) ?_ fun s34 h34 => ?_
 · refine Ok.bind (P := fun s : Int × Int × List Op3 => 0 <= s.1 /\ s.1 <= 1500 /\ s.2.2.length <= 100 /\ BO s.2.2) ?_ fun s hs => Ok.ret hs
   refine zal (fun s : Int × Int × List Op3 × Int => 0 <= s.1 /\ s.1 <= 1000 + 5 * s.2.2.2 /\ (s.2.2.1.length : Int) <= 2 * s.2.2.2 /\ 0 <= s.2.2.2 /\ s.2.2.2 <= l.length /\ BO s.2.2.1) (fun s => (l.length - s.2.2.2).toNat) ?_ ⟨by dsimp only; omega, by dsimp only; omega, by dsimp only; simp, by dsimp only; omega, by dsimp only; omega, by intro x hx; simp at hx⟩
   rintro ⟨p, h, o, i⟩ ⟨g1, g2, g3, g4, g5, g6⟩
   dsimp only at g1 g2 g3 g4 g5 g6 ⊢
   refine Ok.ited (fun hc => ?_) fun hc => Ok.ret ⟨g1, by dsimp only; omega, by dsimp only; omega, g6⟩
   rw [zac (x := i + 1) (by omega) (by omega)]
   refine Ok.bind (P := fun s : Int × Int × List Op3 => 0 <= s.1 /\ s.1 <= p + 5 /\ s.2.2.length <= o.length + 2 /\ BO s.2.2) ?_ fun s hs => ?_
   · refine Ok.chk (by simp only [Bool.and_eq_true, decide_eq_true_eq]; omega) ?_
     refine Ok.chk (zbr (by simp only [List.length_append, List.length_cons, List.length_nil]; omega)) ?_
     refine Ok.chk (by simp only [Bool.and_eq_true, decide_eq_true_eq]; omega) ?_
     refine Ok.bind (P := fun _ => True) ?_ fun s24 _ => ?_
     · refine Ok.bind (P := fun _ => True) ?_ fun s _ => Ok.ret trivial
       refine zal (fun s : Bool × Int => 0 <= s.2 /\ s.2 <= l.length) (fun s => (l.length - s.2).toNat) ?_ ⟨by dsimp only; omega, by dsimp only; omega⟩
       rintro ⟨bb, j⟩ ⟨e1, e2⟩
       dsimp only at e1 e2 ⊢
       refine Ok.ited (fun hj => ?_) fun hj => Ok.ret trivial
       rw [zac (x := j + 1) (by omega) (by omega)]
       refine Ok.bind (P := fun _ => True) ?_ fun s _ => Ok.ret ⟨⟨by dsimp only; omega, by dsimp only; omega⟩, by dsimp only; omega⟩
       refine Ok.chk (by simp only [Bool.and_eq_true, decide_eq_true_eq]; omega) ?_
       refine Ok.chk (by simp only [Bool.and_eq_true, decide_eq_true_eq]; omega) ?_
       exact Ok.ret trivial
     refine Ok.bind (P := fun r : Int × Int × Bool => s24 = false -> 0 <= r.1 /\ r.1 <= p + 5) ?_ fun r25 q25 => ?_
     · cases s24 with
       | true => exact Ok.ret fun h => by cases h
       | false =>
         simp only [Bool.not_false, if_true]
         exact (ze6 hb (by omega) (by omega) _).mono fun r hr _ => by omega
     have hp : 0 <= (if (!s24) = true then r25.1 else p) /\ (if (!s24) = true then r25.1 else p) <= p + 5 := by
      cases s24 with
      | true => simp; omega
      | false => simpa using q25 rfl
     refine Ok.bind (P := fun s : List Op3 => s.length <= o.length + 2 /\ BO s) ?_ fun s hs => Ok.ret ⟨hp.1, hp.2, hs.1, hs.2⟩
     have hbo : BO (o ++ [((l.getD i.toNat (0, (0, []))).1, ((l.getD i.toNat (0, (0, []))).2.1, (l.getD i.toNat (0, (0, []))).2.2))]) := zft g6 (zjj u4 _)
     refine Ok.ite (fun _ => ?_) fun _ => Ok.ret ⟨by simp, hbo⟩
     refine Ok.chk (zbr (by simp only [List.length_append, List.length_cons, List.length_nil]; omega)) ?_
     exact Ok.ret ⟨by simp, zft hbo (by simp)⟩
   · exact Ok.ret ⟨⟨hs.1, by dsimp only; omega, by dsimp only; omega, by dsimp only; omega, by dsimp only; omega, hs.2.2.2⟩, by dsimp only; omega⟩
 obtain ⟨p3, h3, l3⟩ := s34
 obtain ⟨w1, w2, w3, w4⟩ := h34
 dsimp only at w1 w2 w3 w4 ⊢
 rw [zac (x := 1 + r0.2.2) (by omega) (by omega)]
 refine Ok.bind (P := fun s : Int × Int × List Op3 => 0 <= s.1 /\ s.1 <= 2000 /\ s.2.2.length <= 120 /\ BO s.2.2) ?_ fun s hs => Ok.ret hs
 refine Ok.bind (P := fun s : Int × Int × List Op3 => 0 <= s.1 /\ s.1 <= 2000 /\ s.2.2.length <= 120 /\ BO s.2.2) ?_ fun s hs => Ok.ret hs
 refine zal (fun s : Int × Int × List Op3 × Int => 0 <= s.1 /\ s.1 <= 1500 + 5 * s.2.2.2 /\ (s.2.2.1.length : Int) <= 100 + s.2.2.2 /\ 1 <= s.2.2.2 /\ s.2.2.2 <= 6 /\ BO s.2.2.1) (fun s => (10 - s.2.2.2).toNat) ?_ ⟨by dsimp only; omega, by dsimp only; omega, by dsimp only; omega, by dsimp only; omega, by dsimp only; omega, w4⟩
 rintro ⟨p, h, o, t⟩ ⟨g1, g2, g3, g4, g5, g6⟩
 dsimp only at g1 g2 g3 g4 g5 g6 ⊢
 refine Ok.ited (fun hc => ?_) fun hc => Ok.ret ⟨g1, by dsimp only; omega, by dsimp only; omega, g6⟩
 rw [zac (x := t + 1) (by omega) (by omega)]
 refine Ok.bind (P := fun s : Int × Int × List Op3 => 0 <= s.1 /\ s.1 <= p + 5 /\ s.2.2.length <= o.length + 1 /\ BO s.2.2) ?_ fun s hs => ?_
 · refine Ok.bind (zfR (by omega) t) fun r36 q36 => ?_
   refine Ok.bind (P := fun r : Int × Int × Bool => r36 < 0 -> 0 <= r.1 /\ r.1 <= p + 5) ?_ fun r37 q37 => ?_
   · refine Ok.ited (fun _ => (ze6 hb (by omega) (by omega) _).mono fun r hr _ => by omega) fun hh => Ok.ret fun h => absurd h hh
   have hp : 0 <= (if decide (r36 < 0) = true then r37.1 else p) /\ (if decide (r36 < 0) = true then r37.1 else p) <= p + 5 := by
    by_cases c : r36 < 0
    · rw [if_pos (zbr c)]; exact q37 c
    · rw [if_neg (by simpa using c)]; omega
   refine Ok.bind (P := fun s : List Op3 => s.length <= o.length + 1 /\ BO s) ?_ fun s hs => Ok.ret ⟨hp.1, hp.2, hs.1, hs.2⟩
   refine Ok.ite (fun _ => ?_) fun _ => Ok.ret ⟨by omega, g6⟩
   refine Ok.chk (zbr (by simp only [List.length_append, List.length_cons, List.length_nil]; omega)) ?_
   exact Ok.ret ⟨by simp, zft g6 (by simp)⟩
 · exact Ok.ret ⟨⟨hs.1, by dsimp only; omega, by dsimp only; omega, by dsimp only; omega, by dsimp only; omega, hs.2.2.2⟩, by dsimp only; omega⟩
theorem zdb {a : List Int} (hb : Byt a) : Ok (spec_DrawIsTwoPhase a) (fun r => r.1.length <= 120 /\ BO r.1 /\ r.2.length <= 120) := by
 unfold spec_DrawIsTwoPhase
 refine Ok.bind (zjo hb) fun r0 h0 => ?_
 obtain ⟨p0, hh0, l⟩ := r0
 obtain ⟨u1, u2, u3, u4⟩ := h0
 dsimp only at u1 u2 u3 u4 ⊢
 refine Ok.chk (by simp only [Bool.and_eq_true, decide_eq_true_eq]; omega) ?_
 refine Ok.bind (zby hb (by omega) (by omega) _) fun r2 q2 => ?_
 refine Ok.bind (P := fun s : Int × Int × List Int => 0 <= s.1 /\ s.1 <= 5000 /\ s.2.2.length = l.length) ?_ fun s23 h23 => ?_
 · refine Ok.bind (P := fun s : Int × Int × List Int => 0 <= s.1 /\ s.1 <= 5000 /\ s.2.2.length = l.length) ?_ fun s hs => Ok.ret hs
   refine zal (fun s : Int × Int × List Int × Int => 0 <= s.1 /\ s.1 <= 2010 + 5 * s.2.2.2 /\ s.2.2.1.length = l.length /\ 0 <= s.2.2.2 /\ s.2.2.2 <= l.length) (fun s => (l.length - s.2.2.2).toNat) ?_ ⟨by dsimp only; omega, by dsimp only; omega, by dsimp only; rw [List.length_replicate]; omega, by dsimp only; omega, by dsimp only; omega⟩
   rintro ⟨p, h, q, i⟩ ⟨g1, g2, g3, g4, g5⟩
   dsimp only at g1 g2 g3 g4 g5 ⊢
   refine Ok.ited (fun hc => ?_) fun hc => Ok.ret ⟨g1, by dsimp only; omega, g3⟩
   rw [zac (x := i + 1) (by omega) (by omega)]
   refine Ok.bind (P := fun s : Int × Int × List Int => 0 <= s.1 /\ s.1 <= p + 5 /\ s.2.2.length = l.length) ?_ fun s hs => ?_
   · refine Ok.chk (by simp only [Bool.and_eq_true, decide_eq_true_eq]; omega) ?_
     refine Ok.ited (fun _ => Ok.ret ⟨g1, by dsimp only; omega, g3⟩) fun _ => ?_
     refine Ok.chk (by simp only [Bool.and_eq_true, decide_eq_true_eq]; omega) ?_
     refine Ok.bind (P := fun s : Int × Int × List Int => 0 <= s.1 /\ s.1 <= p + 5 /\ s.2.2.length = l.length) ?_ fun s hs => Ok.ret hs
     refine Ok.bind (P := fun s : Int × Int × List Int => 0 <= s.1 /\ s.1 <= p + 5 /\ s.2.2.length = l.length) ?_ fun s hs => Ok.ret hs
     have hq : (q.set i.toNat i).length = l.length := by rw [List.length_set]; exact g3
     refine Ok.ited (fun _ => ?_) fun _ => ?_
     · refine Ok.bind (zfR (by omega) _) fun r6 q6 => ?_
       refine Ok.bind (P := fun s : List Int => s.length = l.length) ?_ fun s hs => Ok.ret ⟨g1, by dsimp only; omega, hs⟩
       refine Ok.ite (fun _ => ?_) fun _ => Ok.ret hq
       refine Ok.chk (by simp only [Bool.and_eq_true, decide_eq_true_eq]; omega) ?_
       exact Ok.ret (by rw [List.length_set]; exact hq)
     · refine Ok.bind (P := fun s : Int × Int × List Int => 0 <= s.1 /\ s.1 <= p + 5 /\ s.2.2.length = l.length) ?_ fun s hs => Ok.ret hs
       refine Ok.ited (fun _ => ?_) fun _ => ?_
       · refine Ok.bind (P := fun s : List Int => s.length = l.length) ?_ fun s hs => Ok.ret ⟨g1, by dsimp only; omega, hs⟩
         refine Ok.bind (P := fun s : List Int => s.length = l.length) ?_ fun s hs => Ok.ret hs
         refine zal (fun s : List Int × Int => s.1.length = l.length /\ 0 <= s.2 /\ s.2 <= l.length) (fun s => (l.length - s.2).toNat) ?_ ⟨hq, by dsimp only; omega, by dsimp only; omega⟩
         rintro ⟨m, j⟩ ⟨e1, e2, e3⟩
         dsimp only at e1 e2 e3 ⊢
         refine Ok.ited (fun hj => ?_) fun hj => Ok.ret e1
         rw [zac (x := j + 1) (by omega) (by omega)]
         refine Ok.bind (P := fun s : List Int => s.length = l.length) ?_ fun s hs => Ok.ret ⟨⟨hs, by dsimp only; omega, by dsimp only; omega⟩, by dsimp only; omega⟩
         refine Ok.chk (by simp only [Bool.and_eq_true, decide_eq_true_eq]; omega) ?_
         refine Ok.chk (by simp only [Bool.and_eq_true, Bool.or_eq_true, decide_eq_true_eq]; exact .inr ⟨by omega, by omega⟩) ?_
         refine Ok.bind (P := fun s : List Int => s.length = l.length) ?_ fun s hs => Ok.ret hs
         refine Ok.ite (fun _ => ?_) fun _ => Ok.ret e1
         refine Ok.chk (by simp only [Bool.and_eq_true, decide_eq_true_eq]; omega) ?_
         exact Ok.ret (by rw [List.length_set]; exact e1)
       · refine Ok.bind (zby hb (by omega) (by omega) _) fun r16 q16 => ?_
         refine Ok.chk (by simp only [Bool.and_eq_true, decide_eq_true_eq]; omega) ?_
         exact Ok.ret ⟨by dsimp only; omega, by dsimp only; omega, by dsimp only; rw [List.length_set]; exact hq⟩
   · exact Ok.ret ⟨⟨hs.1, by dsimp only; omega, hs.2.2, by dsimp only; omega, by dsimp only; omega⟩, by dsimp only; omega⟩
 obtain ⟨p1, h1, q⟩ := s23
 obtain ⟨v1, v2, v3⟩ := h23
 dsimp only at v1 v2 v3 ⊢
 refine Ok.bind (ze6 hb (by omega) (by omega) _) fun r24 q24 => ?_
 refine Ok.bind (P := fun s : List Int => s.length = l.length) ?_ fun s hs => Ok.ret ⟨u3, u4, by dsimp only; omega⟩
 refine Ok.ite (fun hv => ?_) fun _ => Ok.ret v3
 have hpos : 0 < (q.length : Int) := by
  cases hb2 : r24.2.2 with
  | false => rw [hb2] at hv; simp at hv
  | true => rw [hb2] at hv; simpa using hv
 refine Ok.bind (zby hb (by omega) (by omega) _) fun r26 q26 => ?_
 refine Ok.bind (zby hb (by omega) (by omega) _) fun r27 q27 => ?_
 refine Ok.chk (by simp only [Bool.and_eq_true, decide_eq_true_eq]; omega) ?_
 exact Ok.ret (by rw [List.length_set]; exact v3)
theorem zcL {a : List Int} (ha : Byt a) : laws_FnTwoPhase a = some true := by
 classical
 refine Ok.of_eq ?_
 unfold laws_FnTwoPhase
 refine Ok.ited (fun _ => Ok.ret rfl) fun _ => ?_
 refine Ok.bind (zdb ha) fun r hr => ?_
 obtain ⟨l, q⟩ := r
 obtain ⟨h1, h2, h3⟩ := hr
 dsimp only at h1 h2 h3 ⊢
 refine Ok.be (zcQ (by omega) (by omega)) ?_
 refine Ok.be (zcM (by omega) (by omega) fun o ho => Nat.le_trans (h2 o ho) (by decide)) ?_
 by_cases hc : GO l /\ q.length = l.length /\ (List.range l.length).any (lockB l q) = false
 case neg =>
  simp only [if_neg hc, bne_self_eq_false, Bool.false_eq_true, if_false, if_true, Bool.not_false]
  exact Ok.ret rfl
 obtain ⟨g, hq, hlk⟩ := hc
 have hc : GO l /\ q.length = l.length /\ (List.range l.length).any (lockB l q) = false := ⟨g, hq, hlk⟩
 have G : GQ l q := ⟨g, hq, zeh.1 hlk⟩
 simp only [if_pos hc]
 have e : (List.range (spn l q l.length).length).any (rowBad (spn l q l.length)) = (List.range l.length).any (row2 l q) := by
  rw [Bool.eq_iff_iff, zim G, zfx G]
 rw [e]
 cases hb : (List.range l.length).any (row2 l q) with
 | true =>
   simp only [bne_self_eq_false, Bool.not_true, Bool.not_false, Bool.false_eq_true, if_false, if_true]
   exact Ok.ret rfl
 | false =>
   simp only [bne_self_eq_false, Bool.not_true, Bool.not_false, Bool.false_eq_true, if_false, if_true]
   have hno : ¬ ∃ a b, a ∈ fs l l.length /\ b ∈ fs l l.length /\ badR l q a b = true := fun hh => by
    rw [(zfx G).2 hh] at hb; cases hb
   obtain ⟨ts, t1, t2⟩ := zhm g
   have hg : impl_areOps l = some true := by rw [zcu (by omega), decide_eq_true g]
   refine Ok.bind (zew g.len hg t1 t2 (fun t => peak l t (fs l l.length)) fun x hx => ziU G hno x hx) fun r4 h4 => Ok.ret h4
end Sh
